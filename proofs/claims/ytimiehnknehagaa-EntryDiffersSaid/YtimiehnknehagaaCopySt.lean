import Derived.Test.YtimiehnknehagaaCopyP
import Derived.Test.YtimiehnknehagaaStK
import Derived.Test.YtimiehnknehagaaChainCalls
set_option linter.unusedSimpArgs false
set_option linter.unusedVariables false
namespace Go.Proofs.Ytimiehnknehagaa
open Go.RowKit
/-! annuitykeep.CopyState. -/
theorem own_lit {w : World} {B n k : Nat} {t : TypeId} {v : Value} {xs : List Value} (h : w.ownsRow B t k v n xs) : ∃ a c, v = .slice a n c := by
  rcases h.2 with ⟨rfl, rfl⟩ | ⟨g, cap, cur, rfl, _⟩
  · exact ⟨_, _, rfl⟩
  · exact ⟨_, _, rfl⟩
theorem gotSt_ret {R : Ending → World → Prop} {a : Act} {w : World} {b : Nat} {cs : Array Value} {t : TypeId} (hcs : cs.size = 13) (hd : a.defers = []) (hp : a.tmps.getD 2 undef = .pointer (some ⟨b, 0, none⟩)) (hb : Blk w b cs t)
    (h : R (.returned (.agg cs)) w) : bodyPost Try.prog Try.f12 R .ret a w := by
  refine bodyPost_ret (results_cell_row rfl _ _ b t _ (0, 0) _ hp hb.out Try.underlying27 rfl ?_) hd h
  rw [hcs]; kernel_rfl
def CsPost (s : StateM) (w : World) (e : Ending) (w' : World) : Prop := ∃ v, e = .returned v ∧ StAt w' v s ∧ Below w.heap.size w w'
set_option maxRecDepth 100000 in
set_option maxHeartbeats 4000000 in
theorem copyState_any (v : Value) (s : StateM) (hl : s.loans.length ≤ 1000000) (hb : s.bills.length ≤ 1000000) (hbl : ∀ x ∈ s.bills, x.loans.length ≤ 1000000) (w : World) (hs : StAt w v s) : Calls Try.prog 12 #[v] w (CsPost s w) := by
  obtain ⟨vl, vb, rfl, hrl, hrb⟩ := hs.cells
  obtain ⟨w0, hw0⟩ : ∃ w0, w0 = (w.alloc (.cells (stCells s vl vb) 27)).alloc (.cells (stCells ⟨0, [], 0, 0, 0, 0, [], 0, 0, 0, 0, 0, 0⟩ (.slice none 0 0) (.slice none 0 0)) 27) := ⟨_, rfl⟩
  have hb0 : Below w.heap.size w w0 := by rw [hw0]; exact ((Below.refl _ w).alloc (Nat.le_refl _) _).alloc (by simp) _
  have hk1 : Blk w0 w.heap.size (stCells s vl vb) 27 := by rw [hw0]; exact (Blk.new w _ _).alloc _
  have hk2 : Blk w0 (w.heap.size + 1) (stCells ⟨0, [], 0, 0, 0, 0, [], 0, 0, 0, 0, 0, 0⟩ (.slice none 0 0) (.slice none 0 0)) 27 := by rw [hw0]; exact Blk.new' _ _ _ (by simp)
  have HRL := Lib.hid (hrl.below hb0)
  have HRB := Lib.hid (hrb.below hb0)
  have HB0 := Lib.hid hb0
  have HK1 := Lib.hid hk1
  have HK2 := Lib.hid hk2
  unfold stCells at hw0 ⊢
  have HW := Lib.hid hw0
  clear hw0 hb0 hk1 hk2 hs hrl hrb
  go_enter Try.func12, Try.ntmps12
  go_wp2_with fail
  try simp only [World.size_alloc]
  rw [← HW.out]
  have c1 : w0.cell? ⟨w.heap.size, 1, none⟩ = some vl := HK1.out.cell 1
  have c6 : w0.cell? ⟨w.heap.size, 6, none⟩ = some vb := HK1.out.cell 6
  refine wp_region_gate (fun w1 => w1.cell? ⟨w.heap.size, 1, none⟩ = some vl ∧ w1.cell? ⟨w.heap.size, 6, none⟩ = some vb) 7 (by kernel_rfl) ?_ (fun hHeld => ?_)
  · exact ⟨c1, c6⟩
  refine take_gop0 0 (some 3) (v := ?_) rfl rfl (by kernel_rfl) (by kernel_rfl) (by kernel_rfl) (by kernel_rfl) (fun _ _ _ h => h) (Or.inl ⟨by rfl, ?_⟩) (by first | exact fun _ => by assumption | exact fun h => absurd h (by decide)) ?_
  rotate_left
  · intro w_ hSw_; (try dsimp only at hSw_); go_simp; (try with_reducible rfl)
  try simp only [Act.put, List.setIfInBounds_toArray, List.set_cons_zero, List.set_cons_succ]
  refine take_gop 1 (some 4) (v := ?_) rfl rfl (by kernel_rfl) (by kernel_rfl) (by kernel_rfl) (by kernel_rfl) (fun _ _ _ h => h) (Or.inl ⟨by rfl, ?_⟩) (by assumption) ?_
  rotate_left
  · intro w_ hSw_; (try dsimp only at hSw_); go_simp; (try with_reducible rfl)
  try simp only [Act.put, List.setIfInBounds_toArray, List.set_cons_zero, List.set_cons_succ]
  refine take_gop0 3 (some 6) (v := ?_) rfl rfl (by kernel_rfl) (by kernel_rfl) (by kernel_rfl) (by kernel_rfl) (fun _ _ _ h => h) (Or.inl ⟨by rfl, ?_⟩) (by first | exact fun _ => by assumption | exact fun h => absurd h (by decide)) ?_
  rotate_left
  · intro w_ hSw_; (try dsimp only at hSw_); go_simp; (try with_reducible rfl)
  try simp only [Act.put, List.setIfInBounds_toArray, List.set_cons_zero, List.set_cons_succ]
  refine take_gop 4 (some 7) (v := ?_) rfl rfl (by kernel_rfl) (by kernel_rfl) (by kernel_rfl) (by kernel_rfl) (fun _ _ _ h => h) (Or.inl ⟨by rfl, ?_⟩) (by assumption) ?_
  rotate_left
  · intro w_ hSw_; (try dsimp only at hSw_); go_simp; (try with_reducible rfl)
  try simp only [Act.put, List.setIfInBounds_toArray, List.set_cons_zero, List.set_cons_succ]
  refine go_gopS 2 rfl (by kernel_rfl) (fun K_ hK_ => ?_)
  go_simp
  refine (copyLoans_any vl s.loans hl w0.drew (HRL.out.below (Below.refl _ w0).drew)).mono ?_
  rintro e w1 ⟨v1, rfl, hr1, hb1⟩
  have hbase : w.heap.size + 1 < w0.heap.size := HK2.out.lt
  have HBASE := Lib.hid hbase
  have hb1 := (Below.refl w0.heap.size w0).drew.trans hb1
  have HK11 := Lib.hid (HK1.out.below hb1 HK1.out.lt)
  have HK21 := Lib.hid (HK2.out.below hb1 HK2.out.lt)
  have HRB1 := Lib.hid (HRB.out.below hb1)
  have HB1 := Lib.hid (HB0.out.trans (hb1.mono HB0.out.size))
  have HR1 := Lib.hid (owns_rebase hr1 (Nat.succ_le_of_lt hbase : w.heap.size + 2 ≤ w0.drew.heap.size))
  try simp only [Act.put, List.setIfInBounds_toArray, List.set_cons_zero, List.set_cons_succ]
  refine hK_.out _ _ ?_ (fun hHeld_ => ?_)
  · exact ⟨HK11.out.cell 1, HK11.out.cell 6⟩
  refine take_gop0 6 (some 9) (v := ?_) rfl rfl (by kernel_rfl) (by kernel_rfl) (by kernel_rfl) (by kernel_rfl) (fun _ _ _ h => h) (Or.inl ⟨by rfl, ?_⟩) (by first | exact fun _ => by assumption | exact fun h => absurd h (by decide)) ?_
  rotate_left
  · intro w_ hSw_; (try dsimp only at hSw_); go_simp; (try with_reducible rfl)
  try simp only [Act.put, List.setIfInBounds_toArray, List.set_cons_zero, List.set_cons_succ]
  refine go_gopS 5 rfl (by kernel_rfl) (fun K_ hK_ => ?_)
  go_simp
  refine (copyBills_any vb s.bills hb hbl w1 HRB1.out).mono ?_
  rintro e w2 ⟨v2, vs, rfl, hvs, hr2, hi2, hb2⟩
  have hb01 : w.heap.size + 2 ≤ w1.heap.size := HK21.out.lt
  have HK12 := Lib.hid (HK11.out.below hb2 HK11.out.lt)
  have HK22 := Lib.hid (HK21.out.below hb2 HK21.out.lt)
  have HB2 := Lib.hid (HB1.out.trans (hb2.mono HB1.out.size))
  have HR12 := Lib.hid (owns_below HR1.out hb2 (Nat.le_refl _))
  have HR2 := Lib.hid (owns_rebase hr2 hb01)
  have HI2 : Hid (∀ x ∈ vs, w2.ownsRow (w.heap.size + 2) 3 1 (slB x) x.1.loans.length (x.1.loans.flatMap encI)) := Lib.hid (fun x hx => owns_rebase (hi2 x hx) hb01)
  have HVS := Lib.hid hvs
  try simp only [Act.put, List.setIfInBounds_toArray, List.set_cons_zero, List.set_cons_succ]
  refine hK_.out _ _ ?_ (fun hHeld_ => ?_)
  · exact ⟨HK12.out.cell 1, HK12.out.cell 6⟩
  clear hr1 hr2 hb1 hb2 c1 c6 hi2 hvs hb01 hbase
  have c1 : w2.cell? ⟨w.heap.size, 1, none⟩ = some vl := HK12.out.cell 1
  have f1 := HK12.out.free 1
  have hk3 := HK12.out.setCell 1 v1
  have HK3 := Lib.hid hk3
  have HK23 := Lib.hid (HK22.out.setCell_other (a := ⟨w.heap.size, 1, none⟩) (by show w.heap.size + 1 ≠ w.heap.size; omega) v1)
  have HB3 := Lib.hid (HB2.out.setCell (p := ⟨w.heap.size, 1, none⟩) (Nat.le_refl _) v1)
  obtain ⟨a1, q1, rfl⟩ := own_lit HR12.out
  obtain ⟨a2, q2, rfl⟩ := own_lit HR2.out
  refine go_gopF 7 rfl (by kernel_rfl) (by kernel_rfl) (fun K_ hK_ => ?_)
  go_simp
  revert HK3 HK23 HB3
  generalize hw3 : w2.setCell _ _ = w3
  intro HK3 HK23 HB3
  have hb23 : Only (· = w.heap.size) w2 w3 := by rw [← hw3]; exact ⟨rfl, rfl, rfl, by simp, fun k hk hn => by rw [heap_setCell_other _ _ _ _ hn]⟩
  clear hw3
  have hk3 : Blk w3 w.heap.size (stCells s (.slice a1 s.loans.length q1) vb) 27 := HK3.out
  have c6 : w3.cell? ⟨w.heap.size, 6, none⟩ = some vb := hk3.cell 6
  have f6 := hk3.free 6
  have HK4 := Lib.hid (hk3.setCell 6 (.slice a2 vs.length q2))
  have HK24 := Lib.hid (HK23.out.setCell_other (a := ⟨w.heap.size, 6, none⟩) (by show w.heap.size + 1 ≠ w.heap.size; omega) (.slice a2 vs.length q2))
  have HB4 := Lib.hid (HB3.out.setCell (p := ⟨w.heap.size, 6, none⟩) (Nat.le_refl _) (.slice a2 vs.length q2))
  refine hK_.out _ _ ?_
  refine take_gop0 8 (some 10) (v := ?_) rfl rfl (by kernel_rfl) (by kernel_rfl) (by kernel_rfl) (by kernel_rfl) (fun _ _ _ h => h) (Or.inl ⟨by rfl, ?_⟩) (by first | exact fun _ => by assumption | exact fun h => absurd h (by decide)) ?_
  rotate_left
  · intro w_ hSw_; (try dsimp only at hSw_); go_simp; (try with_reducible rfl)
  try simp only [Act.put, List.setIfInBounds_toArray, List.set_cons_zero, List.set_cons_succ]
  refine go_gopF 9 rfl (by kernel_rfl) (by kernel_rfl) (fun K_ hK_ => ?_)
  go_simp
  revert HK4 HK24 HB4
  generalize hw4 : w3.setCell _ _ = w4
  intro HK4 HK24 HB4
  have hb34 : Only (· = w.heap.size) w3 w4 := by rw [← hw4]; exact ⟨rfl, rfl, rfl, by simp, fun k hk hn => by rw [heap_setCell_other _ _ _ _ hn]⟩
  clear hw4
  have hk4 : Blk w4 w.heap.size (stCells s (.slice a1 s.loans.length q1) (.slice a2 vs.length q2)) 27 := HK4.out
  have ho4 := hb23.trans hb34
  refine hK_.out _ _ ?_
  refine AnyG.done (by kernel_rfl) ?_ _
  clear hHeld c1 f1 c6 f6 hk3 hb23 hb34
  have HKF := Lib.hid hk4
  have HOF := Lib.hid ho4
  obtain ⟨d0, d1, d2, d3, d4, d5, d6, d7, d8, d9, d10, d11, d12⟩ := hk4.st
  clear hk4 ho4
  have hr1 := own_only HR12.out HOF.out (fun g hg => by omega)
  have hr2 := own_only HR2.out HOF.out (fun g hg => by omega)
  have hi2 := fun x hx => own_only (HI2.out x hx) HOF.out (fun g hg => by omega)
  have H1 := Lib.hid hr1
  have H2 := Lib.hid hr2
  have H3 := Lib.hid hi2
  clear hr1 hr2 hi2 HR1 HR12 HR2 HI2
  have hold := HK24.out
  have hone : (stCells s (.slice a1 s.loans.length q1) (.slice a2 vs.length q2)).all (·.oneCell') = true := by unfold stCells; simp [Value.oneCell']
  go_wp2_with (first | ((with_reducible refine wpList_store_row rfl 27 _ _ rfl (w.heap.size + 1) (stCells s (.slice a1 s.loans.length q1) (.slice a2 vs.length q2)) rfl rfl 27 (stCells ⟨0, [], 0, 0, 0, 0, [], 0, 0, 0, 0, 0, 0⟩ (.slice none 0 0) (.slice none 0 0)) ?_ ?_ ?_ ?_ ?_); exact hold; kernel_rfl; rfl; exact hone) | fail)
  have hbz : Below w.heap.size w (w4.setRow (w.heap.size + 1) (stCells s (.slice a1 s.loans.length q1) (.slice a2 vs.length q2))) := below_setRow HB4.out (by omega) _
  have hoz : Only (· = w.heap.size + 1) w4 (w4.setRow (w.heap.size + 1) (stCells s (.slice a1 s.loans.length q1) (.slice a2 vs.length q2))) := ⟨rfl, rfl, rfl, by simp, fun k hk hn => setRow_other w4 _ k _ (by omega)⟩
  exact gotSt_ret rfl rfl rfl (HK24.out.setRow _) ⟨_, rfl, ⟨_, _, rfl, RowsAt.own encLoan_len (own_only H1.out hoz (fun g hg => by omega)) rfl (by omega), bills_of_own HVS.out hb hbl (own_only H2.out hoz (fun g hg => by omega)) (fun x hx => own_only (H3.out x hx) hoz (fun g hg => by omega))⟩, hbz⟩
end Go.Proofs.Ytimiehnknehagaa
