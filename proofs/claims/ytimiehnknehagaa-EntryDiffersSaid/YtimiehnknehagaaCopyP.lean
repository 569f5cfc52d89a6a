import Derived.Test.YtimiehnknehagaaIdsPlain
import Derived.Test.YtimiehnknehagaaGate
set_option linter.unusedSimpArgs false
set_option linter.unusedVariables false
namespace Go.Proofs.Ytimiehnknehagaa
open Go.RowKit
/-! annuitykeep.CopyLoans, CopyBills, CopyState. -/
def RowsPost {α : Type} (enc : α → List Value) (t : TypeId) (k : Nat) (l : List α) (w : World) (e : Ending) (w' : World) : Prop := ∃ v, e = .returned v ∧ w'.ownsRow w.heap.size t k v l.length (l.flatMap enc) ∧ Below w.heap.size w w'
set_option maxHeartbeats 2000000 in
theorem copyLoans_any (vl : Value) (l : List LoanM) (hn : l.length ≤ 1000000) (w : World) (hl : RowsAt encLoan 13 w vl l) : Calls Try.prog 25 #[vl] w (RowsPost encLoan 58 13 l w) := by
  obtain ⟨adl, cl, rfl, hl1, hl2, hls⟩ := hl
  obtain ⟨n, hnl⟩ : ∃ n, n = l.length := ⟨_, rfl⟩
  rw [← hnl] at hn hl1 hl2 ⊢
  have HNL := Lib.hid hnl
  have HSL := Lib.hid hls
  clear hnl hls
  have HO0 : Hid ((w.alloc (.cells #[] 58)).ownsRow w.heap.size 58 13 (.slice (some ⟨w.heap.size, 0, none⟩) 0 0) 0 (([] : List LoanM).flatMap encLoan)) := Lib.hid (empty_own w _ _)
  have HB0 : Hid (Below w.heap.size w (w.alloc (.cells #[] 58))) := Lib.hid ((Below.refl _ w).alloc (Nat.le_refl _) _)
  have HSL1 := Lib.hid (HSL.out.below HB0.out)
  go_enter Try.func25, Try.ntmps25
  go_wp2_with (first | ((with_reducible refine at_appRows sl_loan loan_info rfl (by decide) encLoan_len encLoan_one (by decide) w.heap.size (.slice (some ⟨w.heap.size, 0, none⟩) 0 0) 0 [] l adl n cl ?_ ?_ ?_ ?_ ?_ ?_ ?_ ?_); exact HNL.out; exact HO0.out; exact HSL1.out; exact (by omega); exact HB0.out.size; exact rfl; exact rfl; intro v5 w5 ho5 hg5 hv5) | fail)
  go_ret
  rw [Nat.zero_add, List.nil_append] at ho5
  exact ⟨v5, rfl, by rw [← HNL.out]; exact ho5, HB0.out.trans (below_grown hg5 HB0.out.size (fun k hk => owns_block HO0.out k hk))⟩
/-- A bill whose slice is told by its three parts. -/
abbrev BillS := BillM × Option Addr × Nat × Nat
def slB (x : BillS) : Value := .slice x.2.1 x.2.2.1 x.2.2.2
def encBS (x : BillS) : List Value := encBill (x.1, slB x)
theorem encBS_len (x : BillS) : (encBS x).length = 6 := rfl
theorem encBS_one : ∀ x : BillS, ∀ v ∈ encBS x, v.oneCell' = true := by
  intro x v hv
  simp [encBS, encBill] at hv
  rcases hv with rfl | rfl | rfl | rfl | rfl | rfl <;> rfl
def BillsPost (l : List BillM) (w : World) (e : Ending) (w' : World) : Prop :=
  ∃ v, ∃ vs : List BillS, e = .returned v ∧ vs.map (·.1) = l ∧ w'.ownsRow w.heap.size 56 6 v vs.length (vs.flatMap encBS) ∧ (∀ x ∈ vs, w'.ownsRow w.heap.size 3 1 (slB x) x.1.loans.length (x.1.loans.flatMap encI)) ∧ Below w.heap.size w w'
theorem bills_of_own {w : World} {B : Nat} {vs : List BillS} {l : List BillM} {v : Value} (hf : vs.map (·.1) = l) (hl : l.length ≤ 1000000) (hb : ∀ x ∈ l, x.loans.length ≤ 1000000) (ho : w.ownsRow B 56 6 v vs.length (vs.flatMap encBS)) (hi : ∀ x ∈ vs, w.ownsRow B 3 1 (slB x) x.1.loans.length (x.1.loans.flatMap encI)) : BillsAt w v l := by
  have hfm : (vs.map fun x => (x.1, slB x)).flatMap encBill = vs.flatMap encBS := by rw [List.flatMap_map]; rfl
  have hvl : vs.length = l.length := by rw [← hf, List.length_map]
  refine ⟨vs.map fun x => (x.1, slB x), by rw [List.map_map]; exact hf, RowsAt.own encBill_len (n := vs.length) (by rw [hfm]; exact ho) (by rw [List.length_map]) (by omega), ?_⟩
  intro y hy
  obtain ⟨z, hz, rfl⟩ := List.mem_map.1 hy
  have h8 : z.1 ∈ vs.map (·.1) := List.mem_map.2 ⟨z, hz, rfl⟩
  rw [hf] at h8
  have h9 := hb z.1 h8
  exact RowsAt.own encI_len (hi z hz) rfl (by omega)
/-- Bills that were copied. -/
structure CpB (w wr : World) (vs : List BillS) (l : List BillM) (i : Nat) (v : Value) : Prop where
  fst : vs.map (·.1) = l.take i
  own : wr.ownsRow w.heap.size 56 6 v vs.length (vs.flatMap encBS)
  ins : ∀ x ∈ vs, wr.ownsRow w.heap.size 3 1 (slB x) x.1.loans.length (x.1.loans.flatMap encI)
  bel : Below w.heap.size w wr
theorem own_keep {w w' : World} {B B' n m k k' : Nat} {t t' : TypeId} {u v : Value} {xs ys : List Value} (hu : w.ownsRow B t k u n xs) (hv : w.ownsRow B' t' k' v m ys) (ht : t ≠ t') (hg : w.grownBy w' v.ownBlock) : w'.ownsRow B t k u n xs := by
  refine ⟨hu.1, ?_⟩
  rcases hu.2 with h0 | ⟨g, cap, cur, h1, h2, h3, h4⟩
  · exact .inl h0
  · refine .inr ⟨g, cap, cur, h1, h2, ?_, h4⟩
    rw [hg.block g (lt_of_block h3) (fun e => ?_)]
    · exact h3
    · rcases hv.2 with ⟨rfl, _⟩ | ⟨g', cap', cur', rfl, _, h3', _⟩
      · cases e
      · have e : g = g' := Option.some.inj e
        subst e
        rw [h3] at h3'
        injection h3' with h3'
        injection h3' with _ q
        exact ht q
theorem own_only {w w' : World} {B n k : Nat} {S : Nat → Prop} {t : TypeId} {u : Value} {xs : List Value} (hu : w.ownsRow B t k u n xs) (ho : Only S w w') (hS : ∀ g, B ≤ g → ¬ S g) : w'.ownsRow B t k u n xs := by
  refine ⟨hu.1, ?_⟩
  rcases hu.2 with h0 | ⟨g, cap, cur, h1, h2, h3, h4⟩
  · exact .inl h0
  · exact .inr ⟨g, cap, cur, h1, h2, (ho.block g (lt_of_block h3) (hS g h2)).trans h3, h4⟩
/-- The slice goes into the copy, the copy behind the others. -/
theorem cpb_store {w wr w5 : World} {vs : List BillS} {l : List BillM} {i : Nat} {v : Value} {xm xa xf xc xp : Int} {xl : List Int} {adx a5 : Option Addr} {q cx c5 : Nat} (hR : CpB w wr vs l i v) (hb : Below wr.heap.size wr w5)
    (hk5 : Blk w5 wr.heap.size #[.int .i64 xm, .int .i64 xa, .int .i64 xf, .int .i64 xc, .int .i64 xp, .slice adx q cx] 56) (ho5 : w5.ownsRow (wr.heap.size + 1) 3 1 (.slice a5 q c5) q (xl.flatMap encI)) (hq : q = xl.length) :
    (((w5.setCell ⟨wr.heap.size, 5, none⟩ (.slice a5 q c5)).alloc (.cells #[.int .i64 xm, .int .i64 xa, .int .i64 xf, .int .i64 xc, .int .i64 xp, .slice a5 q c5] 56)).ownsRow w.heap.size 56 6 v vs.length (vs.flatMap encBS)) ∧
    SrcAt encBS 6 ((w5.setCell ⟨wr.heap.size, 5, none⟩ (.slice a5 q c5)).alloc (.cells #[.int .i64 xm, .int .i64 xa, .int .i64 xf, .int .i64 xc, .int .i64 xp, .slice a5 q c5] 56)) (some ⟨w5.heap.size, 0, none⟩) [((⟨xm, xa, xf, xc, xp, xl⟩ : BillM), a5, q, c5)] ∧
    w.heap.size ≤ ((w5.setCell ⟨wr.heap.size, 5, none⟩ (.slice a5 q c5)).alloc (.cells #[.int .i64 xm, .int .i64 xa, .int .i64 xf, .int .i64 xc, .int .i64 xp, .slice a5 q c5] 56)).heap.size ∧
    ∀ w8, ((w5.setCell ⟨wr.heap.size, 5, none⟩ (.slice a5 q c5)).alloc (.cells #[.int .i64 xm, .int .i64 xa, .int .i64 xf, .int .i64 xc, .int .i64 xp, .slice a5 q c5] 56)).grownBy w8 v.ownBlock → Below w.heap.size w w8 ∧
      ∀ x ∈ vs ++ [((⟨xm, xa, xf, xc, xp, xl⟩ : BillM), a5, q, c5)], w8.ownsRow w.heap.size 3 1 (slB x) x.1.loans.length (x.1.loans.flatMap encI) := by
  have hb6 : Below wr.heap.size wr (w5.setCell ⟨wr.heap.size, 5, none⟩ (.slice a5 q c5)) := hb.setCell (p := ⟨wr.heap.size, 5, none⟩) (Nat.le_refl _) _
  have hon : Only (· = wr.heap.size) w5 (w5.setCell ⟨wr.heap.size, 5, none⟩ (.slice a5 q c5)) := ⟨rfl, rfl, rfl, by simp, fun k hk hn => by rw [heap_setCell_other _ _ _ _ hn]⟩
  have h6 := own_only ho5 hon (fun g hg => by omega)
  have hsz : (w5.setCell ⟨wr.heap.size, 5, none⟩ (.slice a5 q c5)).heap.size = w5.heap.size := by simp
  revert hb6 h6 hsz
  generalize w5.setCell ⟨wr.heap.size, 5, none⟩ (.slice a5 q c5) = w6
  intro hb6 h6 hsz
  have hk7 : Blk (w6.alloc (.cells #[.int .i64 xm, .int .i64 xa, .int .i64 xf, .int .i64 xc, .int .i64 xp, .slice a5 q c5] 56)) w5.heap.size #[.int .i64 xm, .int .i64 xa, .int .i64 xf, .int .i64 xc, .int .i64 xp, .slice a5 q c5] 56 := Blk.new' _ _ _ hsz.symm
  have hb67 : Below w6.heap.size w6 (w6.alloc (.cells #[.int .i64 xm, .int .i64 xa, .int .i64 xf, .int .i64 xc, .int .i64 xp, .slice a5 q c5] 56)) := (Below.refl _ _).alloc (Nat.le_refl _) _
  have h7 := owns_below h6 hb67 (Nat.le_refl _)
  have hb7 := hb6.trans (hb67.mono hb6.size)
  revert hk7 h7 hb7
  generalize w6.alloc (.cells #[.int .i64 xm, .int .i64 xa, .int .i64 xf, .int .i64 xc, .int .i64 xp, .slice a5 q c5] 56) = w7
  intro hk7 h7 hb7
  have hov := owns_below hR.own hb7 (Nat.le_refl _)
  have hwb := hR.bel.trans (hb7.mono hR.bel.size)
  refine ⟨hov, SrcAt.one hk7 rfl, hwb.size, fun w8 hg => ⟨hwb.trans (below_grown hg hwb.size (fun k hk => owns_block hov k hk)), fun x hx => ?_⟩⟩
  rcases List.mem_append.1 hx with hx | hx
  · exact own_keep (owns_below (hR.ins x hx) hb7 (Nat.le_refl _)) hov (by decide) hg
  · obtain rfl := List.mem_singleton.1 hx
    show w8.ownsRow w.heap.size 3 1 (.slice a5 q c5) xl.length (xl.flatMap encI)
    rw [← hq]
    exact own_keep (owns_rebase h7 (by have := hR.bel.size; omega)) hov (by decide) hg
set_option maxRecDepth 100000 in
set_option maxHeartbeats 4000000 in
theorem copyBills_any (vl : Value) (l : List BillM) (hn : l.length ≤ 1000000) (hb : ∀ x ∈ l, x.loans.length ≤ 1000000) (w : World) (hl : BillsAt w vl l) : Calls Try.prog 26 #[vl] w (BillsPost l w) := by
  obtain ⟨us, hus, ⟨adl, cl, rfl, hl1, hl2, hls⟩, hin⟩ := hl
  obtain ⟨n, hnl⟩ : ∃ n, n = us.length := ⟨_, rfl⟩
  have hnn : n = l.length := by rw [← hus, List.length_map]; exact hnl
  rw [← hnl] at hl1 hl2 ⊢
  rw [← hnn] at hn
  have HNL := Lib.hid hnl
  have HNN := Lib.hid hnn
  have HUS := Lib.hid hus
  have HSL := Lib.hid hls
  have HIN := Lib.hid hin
  have HBL := Lib.hid hb
  clear hnl hls hin hus hb hnn
  go_enter Try.func26, Try.ntmps26
  go_wp2_with fail
  go_loopw [3, 4] (fun x3 x4 wr => ∃ (i : Nat) (vs : List BillS) (v : Value), i ≤ n ∧ x4 = .int .i64 i ∧ v = x3 ∧ CpB w wr vs l i v) (fun _ y _ => n - (intOf y).toNat)
  case atStart => exact ⟨0, [], _, Nat.zero_le _, rfl, rfl, rfl, ⟨rfl, .inl ⟨rfl, rfl⟩⟩, (fun _ h => by cases h), Below.refl _ _⟩
  case round =>
    obtain ⟨i, vs, v, hi, rfl, rfl, hR⟩ := hrel
    have HR := Lib.hid hR
    clear hR
    by_cases hlt : i < n
    · have g1 : (i : Int) < (n : Int) := by omega
      obtain ⟨x, hx⟩ : ∃ x, us[i]? = some x := ⟨us[i]'(by have := HNL.out; omega), List.getElem?_eq_getElem _⟩
      have hxl : l[i]? = some x.1 := by rw [← HUS.out, List.getElem?_map, hx]; rfl
      obtain ⟨be, oe, rfl, hbe, hc⟩ := HSL.out (by have := HNL.out; omega)
      have cc : ∀ (j : Nat) u, (encBill x)[j]? = some u → wr.cell? ⟨be, oe + i * 6 + j, none⟩ = some u := fun j u hj => (HR.out.bel.cell (p := ⟨be, oe + i * 6 + j, none⟩) hbe).trans (hc i x hx j u hj)
      obtain ⟨adx, cx, hxv, hx1, hx2, hxs⟩ := HIN.out x (List.mem_of_getElem? hx)
      have hxb := HBL.out x.1 (List.mem_of_getElem? hxl)
      obtain ⟨⟨xm, xa, xf, xc, xp, xl⟩, xv⟩ := x
      dsimp only at hxv hx1 hx2 hxs hxb hxl
      obtain ⟨q, hq⟩ : ∃ q, q = xl.length := ⟨_, rfl⟩
      rw [← hq] at hxv hx1 hx2 hxb
      subst hxv
      have f0 : wr.cell? ⟨be, oe + i * 6, none⟩ = some (.int .i64 xm) := cc 0 _ rfl
      have f1 : wr.cell? ⟨be, oe + i * 6 + 1, none⟩ = some (.int .i64 xa) := cc 1 _ rfl
      have f2 : wr.cell? ⟨be, oe + i * 6 + 2, none⟩ = some (.int .i64 xf) := cc 2 _ rfl
      have f3 : wr.cell? ⟨be, oe + i * 6 + 3, none⟩ = some (.int .i64 xc) := cc 3 _ rfl
      have f4 : wr.cell? ⟨be, oe + i * 6 + 4, none⟩ = some (.int .i64 xp) := cc 4 _ rfl
      have f5 : wr.cell? ⟨be, oe + i * 6 + 5, none⟩ = some (.slice adx q cx) := cc 5 _ rfl
      have HQ := Lib.hid hq
      have HXL := Lib.hid hxl
      have HXS := Lib.hid (hxs.below HR.out.bel)
      have HBA : Hid (Below wr.heap.size wr (wr.alloc (.cells #[.int .i64 xm, .int .i64 xa, .int .i64 xf, .int .i64 xc, .int .i64 xp, .slice adx q cx] 56))) := Lib.hid ((Below.refl _ wr).alloc (Nat.le_refl _) _)
      have HO1 : Hid (((wr.alloc (.cells #[.int .i64 xm, .int .i64 xa, .int .i64 xf, .int .i64 xc, .int .i64 xp, .slice adx q cx] 56)).alloc (.cells #[] 3)).ownsRow (wr.heap.size + 1) 3 1 (.slice (some ⟨wr.heap.size + 1, 0, none⟩) 0 0) 0 (([] : List Int).flatMap encI)) := Lib.hid (by have := empty_own (wr.alloc (.cells #[.int .i64 xm, .int .i64 xa, .int .i64 xf, .int .i64 xc, .int .i64 xp, .slice adx q cx] 56)) 3 1; rwa [World.size_alloc] at this)
      have HK1 : Hid (Blk ((wr.alloc (.cells #[.int .i64 xm, .int .i64 xa, .int .i64 xf, .int .i64 xc, .int .i64 xp, .slice adx q cx] 56)).alloc (.cells #[] 3)) wr.heap.size #[.int .i64 xm, .int .i64 xa, .int .i64 xf, .int .i64 xc, .int .i64 xp, .slice adx q cx] 56) := Lib.hid ((Blk.new _ _ _).alloc _)
      have HB1 : Hid (Below wr.heap.size wr ((wr.alloc (.cells #[.int .i64 xm, .int .i64 xa, .int .i64 xf, .int .i64 xc, .int .i64 xp, .slice adx q cx] 56)).alloc (.cells #[] 3))) := Lib.hid (((Below.refl _ wr).alloc (Nat.le_refl _) _).alloc (by simp) _)
      have HB1s : Hid (wr.heap.size + 1 ≤ ((wr.alloc (.cells #[.int .i64 xm, .int .i64 xa, .int .i64 xf, .int .i64 xc, .int .i64 xp, .slice adx q cx] 56)).alloc (.cells #[] 3)).heap.size) := Lib.hid (by simp)
      have HXS1 := Lib.hid (HXS.out.below HB1.out)
      have HVL : Hid (vs.length = i) := Lib.hid (by have := congrArg List.length HR.out.fst; rw [List.length_map, List.length_take] at this; have := HNN.out; omega)
      clear hc cc hx hxl hxs hq hbe
      go_wp2_with (first | ((with_reducible refine at_appRows sl_int int_info rfl (by decide) encI_len encI_one (by decide) (wr.heap.size + 1) (.slice (some ⟨wr.heap.size + 1, 0, none⟩) 0 0) 0 [] xl adx q cx ?_ ?_ ?_ ?_ ?_ ?_ ?_ ?_); exact HQ.out; exact HO1.out; exact HXS1.out; exact (by omega); exact HB1s.out; exact rfl; exact rfl; intro v5 w5 ho5 hg5 hv5; rw [Nat.zero_add, List.nil_append] at ho5; obtain ⟨a5, c5, hv9, hc51, hc52, hs5⟩ := RowsAt.own encI_len ho5 HQ.out (by omega); rw [← HQ.out] at hv9 hc51; subst hv9; have hb5 := below_grown (B := wr.heap.size + 1) hg5 HB1s.out (fun k hk => owns_block HO1.out k hk); have hk5 := HK1.out.below hb5 (Nat.lt_succ_self _); have C0 : w5.cell? ⟨wr.heap.size, 0, none⟩ = some (.int .i64 xm) := hk5.cell 0; have C1 : w5.cell? ⟨wr.heap.size, 1, none⟩ = some (.int .i64 xa) := hk5.cell 1; have C2 : w5.cell? ⟨wr.heap.size, 2, none⟩ = some (.int .i64 xf) := hk5.cell 2; have C3 : w5.cell? ⟨wr.heap.size, 3, none⟩ = some (.int .i64 xc) := hk5.cell 3; have C4 : w5.cell? ⟨wr.heap.size, 4, none⟩ = some (.int .i64 xp) := hk5.cell 4; have C5 : w5.cell? ⟨wr.heap.size, 5, none⟩ = some (.slice adx q cx) := hk5.cell 5; have F5 := hk5.free 5; have hst := cpb_store HR.out (HB1.out.trans (hb5.mono (Nat.le_succ _))) hk5 ho5 HQ.out; obtain ⟨hst1, hst2, hst3, hst4⟩ := hst; have HS1 := Lib.hid hst1; have HS2 := Lib.hid hst2; have HS3 := Lib.hid hst3; have HS4 := Lib.hid hst4; clear ho5 hg5 hv5 hb5 hk5 hc51 hc52 hs5 hst1 hst2 hst3 hst4) | ((with_reducible refine at_appRows sl_bill bill_info rfl (by decide) encBS_len encBS_one (by decide) w.heap.size v vs.length vs [((⟨xm, xa, xf, xc, xp, xl⟩ : BillM), a5, q, c5)] (some ⟨w5.heap.size, 0, none⟩) 1 1 ?_ ?_ ?_ ?_ ?_ ?_ ?_ ?_); exact rfl; exact HS1.out; exact HS2.out; exact (by have := HVL.out; omega); exact HS3.out; exact rfl; exact rfl; intro v6 w6 ho6 hg6 hv6) | fail)
      have h9 := HS4.out w6 hg6
      have HFST : Hid ((vs ++ [((⟨xm, xa, xf, xc, xp, xl⟩ : BillM), a5, q, c5)]).map (·.1) = l.take (i + 1)) := Lib.hid (by rw [List.map_append, HR.out.fst, List.take_add_one, HXL.out]; rfl)
      have HO6 : Hid (w6.ownsRow w.heap.size 56 6 v6 (vs ++ [((⟨xm, xa, xf, xc, xp, xl⟩ : BillM), a5, q, c5)]).length ((vs ++ [((⟨xm, xa, xf, xc, xp, xl⟩ : BillM), a5, q, c5)]).flatMap encBS)) := Lib.hid (by rw [List.length_append]; exact ho6)
      have H9 := Lib.hid h9
      clear h9 ho6 hg6 hv6
      go_wp2_with fail
      go_roundw
      case rel => exact ⟨i + 1, _, v6, by omega, by go_num, rfl, HFST.out, HO6.out, H9.out.2, H9.out.1⟩
      case measure => simp [intOf]; omega
    · have g1 : ¬ (i : Int) < (n : Int) := by omega
      have hin : n = i := by omega
      have hfin : Hid (l.take i = l) := Lib.hid (by rw [← hin, HNN.out, List.take_length])
      clear hin
      go_wp2_with fail
      go_ret
      have hf := HR.out.fst
      rw [hfin.out] at hf
      exact ⟨_, vs, rfl, hf, HR.out.own, HR.out.ins, HR.out.bel⟩
end Go.Proofs.Ytimiehnknehagaa
