import Derived.Test.YtimiehnknehagaaDfFns
import Derived.Test.YtimiehnknehagaaIdsP
import Derived.Test.YtimiehnknehagaaChainCalls
import Derived.Test.YtimiehnknehagaaInsSet
set_option linter.unusedSimpArgs false
set_option linter.unusedVariables false
namespace Go.Proofs.Ytimiehnknehagaa
open Go.RowKit
/-! The reference's Diff. -/
def rowD (A B : Int × Int → Option Int) (id b : Int) : Option Ent := if dOf A B (id, b) ≠ 0 ∧ in64 (dOf A B (id, b)) then some (id, b, dOf A B (id, b)) else none
def rowsOf (A B : Int × Int → Option Int) (id : Int) : List Ent := [1, 2, 3].filterMap (rowD A B id)
theorem rowD_some {A B : Int × Int → Option Int} {id b : Int} {x : Ent} (h : rowD A B id b = some x) : x = (id, b, dOf A B (id, b)) ∧ dOf A B (id, b) ≠ 0 ∧ in64 (dOf A B (id, b)) := by
  unfold rowD at h
  split at h
  · rename_i hc
    exact ⟨(Option.some.inj h).symm, hc⟩
  · cases h
theorem rowsOf_mem {A B : Int × Int → Option Int} {id : Int} {x : Ent} : x ∈ rowsOf A B id ↔ ∃ b, 1 ≤ b ∧ b ≤ 3 ∧ rowD A B id b = some x := by
  unfold rowsOf
  rw [List.mem_filterMap]
  constructor
  · rintro ⟨b, hb, h⟩
    simp at hb
    exact ⟨b, by omega, by omega, h⟩
  · rintro ⟨b, h1, h2, h⟩
    exact ⟨b, by simp; omega, h⟩
theorem rowsOf_len (A B : Int × Int → Option Int) (id : Int) : (rowsOf A B id).length ≤ 3 := List.length_filterMap_le _ _
theorem told_rows {la lb : List LoanM} {ids : List Int} (h : SortedI (fun y => ∃ x ∈ la ++ lb, x.id = y) ids) : IsTold (diffOf (buckOf la) (buckOf lb)) (ids.flatMap (rowsOf (buckOf la) (buckOf lb))) := by
  refine ⟨?_, fun x => ?_⟩
  · rw [List.pairwise_flatMap]
    refine ⟨fun id _ => ?_, ?_⟩
    · unfold rowsOf
      refine List.Pairwise.filterMap (R := (· < ·)) _ ?_ (by simp)
      intro b b' hlt x hx y hy
      obtain ⟨rfl, _⟩ := rowD_some hx
      obtain ⟨rfl, _⟩ := rowD_some hy
      unfold ltK keyE; dsimp only; omega
    · refine h.1.imp ?_
      intro a b hab x hx y hy
      obtain ⟨_, _, _, hx⟩ := rowsOf_mem.1 hx
      obtain ⟨_, _, _, hy⟩ := rowsOf_mem.1 hy
      obtain ⟨rfl, _⟩ := rowD_some hx
      obtain ⟨rfl, _⟩ := rowD_some hy
      unfold ltK keyE; dsimp only; omega
  · rw [List.mem_flatMap]
    constructor
    · rintro ⟨id, hid, hx⟩
      obtain ⟨b, h1, h2, hx⟩ := rowsOf_mem.1 hx
      obtain ⟨rfl, h3, h4⟩ := rowD_some hx
      refine ⟨?_, h3⟩
      have hcc : (buckOf la (id, b)).isSome ∨ (buckOf lb (id, b)).isSome := Classical.byContradiction fun hn => h3 (by
        have h5 : buckOf la (id, b) = none := by cases hq : buckOf la (id, b) with | none => rfl | some _ => exact absurd (.inl (by rw [hq]; rfl)) hn
        have h6 : buckOf lb (id, b) = none := by cases hq : buckOf lb (id, b) with | none => rfl | some _ => exact absurd (.inr (by rw [hq]; rfl)) hn
        unfold dOf
        rw [h5, h6]; rfl)
      unfold diffOf keyE
      dsimp only
      rw [if_pos ⟨hcc, h4⟩]
    · rintro ⟨h1, h2⟩
      obtain ⟨x1, x2, x3⟩ := x
      unfold diffOf keyE at h1
      dsimp only at h1 h2
      split at h1
      · rename_i hc
        obtain ⟨h3, h4⟩ := hc
        have h5 := Option.some.inj h1
        have hk : (∃ y ∈ la ++ lb, y.id = x1) ∧ 1 ≤ x2 ∧ x2 ≤ 3 := by
          rcases h3 with h3 | h3
          · obtain ⟨⟨y, hy, e⟩, q⟩ := buck_key h3
            exact ⟨⟨y, List.mem_append_left _ hy, e⟩, q⟩
          · obtain ⟨⟨y, hy, e⟩, q⟩ := buck_key h3
            exact ⟨⟨y, List.mem_append_right _ hy, e⟩, q⟩
        refine ⟨x1, (h.2 x1).2 hk.1, rowsOf_mem.2 ⟨x2, hk.2.1, hk.2.2, ?_⟩⟩
        unfold rowD
        rw [if_pos ⟨by rw [h5]; exact h2, h4⟩, h5]
      · cases h1
theorem valF_in {l : List LoanM} (h : ∀ x ∈ l, in64L x) (id b : Int) : in64 (valF l id b) := by
  unfold valF buckOf
  cases hq : l.find? (fun x => x.id == (id, b).1) with
  | none => unfold in64; simp
  | some x =>
    obtain ⟨h1, h2, h3⟩ := (h x (List.mem_of_find?_eq_some hq)).three
    dsimp only
    split
    · exact h1
    · split
      · exact h2
      · split
        · exact h3
        · unfold in64; simp
def DrPost (la lb : List LoanM) (w : World) (e : Ending) (w' : World) : Prop :=
  ∃ v es, e = .returned v ∧ IsTold (diffOf (buckOf la) (buckOf lb)) es ∧ RowsAt encE 3 w' v es ∧ es.length ≤ 600 ∧ Below w.heap.size w w'
theorem flat_len3 (A B : Int × Int → Option Int) (ids : List Int) : (ids.flatMap (rowsOf A B)).length ≤ ids.length * 3 := by
  induction ids with
  | nil => simp
  | cons x l ih =>
    rw [List.flatMap_cons, List.length_append, List.length_cons]
    have := rowsOf_len A B x
    omega
/-- At the head of the inner loop. -/
structure DrIn (w1 wr : World) (A B : Int × Int → Option Int) (pre : List Ent) (id : Int) (j : Nat) (v : Value) : Prop where
  own : wr.ownsRow w1.heap.size 59 3 v (pre ++ ([1, 2, 3].take j).filterMap (rowD A B id)).length ((pre ++ ([1, 2, 3].take j).filterMap (rowD A B id)).flatMap encE)
  bel : Below w1.heap.size w1 wr
set_option maxRecDepth 100000 in
set_option maxHeartbeats 8000000 in
theorem refDiff_any (va vb : Value) (sa sb : StateM) (na : sa.loans.length ≤ 100) (nb : sb.loans.length ≤ 100) (w : World) (ha : StAt w va sa) (hb : StAt w vb sb) (ia : ∀ x ∈ sa.loans, in64L x) (ib : ∀ x ∈ sb.loans, in64L x) :
    Calls Try.prog 13 #[va, vb] w (DrPost sa.loans sb.loans w) := by
  obtain ⟨vla, vba, rfl, hla, _⟩ := ha.cells
  obtain ⟨vlb, vbb, rfl, hlb, _⟩ := hb.cells
  obtain ⟨w0, hw0⟩ : ∃ w0, w0 = (w.alloc (.cells (stCells sa vla vba) 27)).alloc (.cells (stCells sb vlb vbb) 27) := ⟨_, rfl⟩
  have hb0 : Below w.heap.size w w0 := by rw [hw0]; exact ((Below.refl _ w).alloc (Nat.le_refl _) _).alloc (by simp) _
  have hka : Blk w0 w.heap.size (stCells sa vla vba) 27 := by rw [hw0]; exact (Blk.new w _ _).alloc _
  have hkb : Blk w0 (w.heap.size + 1) (stCells sb vlb vbb) 27 := by rw [hw0]; exact Blk.new' _ _ _ (by simp)
  have HRA := Lib.hid (hla.below hb0)
  have HRB := Lib.hid (hlb.below hb0)
  have HB0 := Lib.hid hb0
  have c1 : w0.cell? ⟨w.heap.size, 1, none⟩ = some vla := hka.cell 1
  have c2 : w0.cell? ⟨w.heap.size + 1, 1, none⟩ = some vlb := hkb.cell 1
  have hlt1 : w.heap.size < w0.heap.size := hka.lt
  have hlt2 : w.heap.size + 1 < w0.heap.size := hkb.lt
  have C1 := Lib.hid c1
  have C2 := Lib.hid c2
  have HIA := Lib.hid ia
  have HIB := Lib.hid ib
  unfold stCells at hw0 ⊢
  rw [hw0] at c1 c2
  have HW := Lib.hid hw0
  clear hw0 hb0 hka hkb ia ib ha hb hla hlb
  go_enter Try.func13, Try.ntmps13
  go_wp2_with fail
  try simp only [World.size_alloc]
  rw [← HW.out]
  clear c1 c2
  refine (ids_any vla vlb sa.loans sb.loans (by omega) w0 HRA.out HRB.out).mono ?_
  rintro e w1 ⟨vi, ids, rfl, hs, hnl, hri, hb1⟩
  have HS := Lib.hid hs
  have HB1 := Lib.hid (HB0.out.trans (hb1.mono HB0.out.size))
  have HRA1 := Lib.hid (HRA.out.below hb1)
  have HRB1 := Lib.hid (HRB.out.below hb1)
  have D1 := Lib.hid ((hb1.cell (p := ⟨w.heap.size, 1, none⟩) hlt1).trans C1.out)
  have D2 := Lib.hid ((hb1.cell (p := ⟨w.heap.size + 1, 1, none⟩) hlt2).trans C2.out)
  have hlt3 : w.heap.size < w1.heap.size := Nat.lt_of_lt_of_le hlt1 hb1.size
  have hlt4 : w.heap.size + 1 < w1.heap.size := Nat.lt_of_lt_of_le hlt2 hb1.size
  obtain ⟨adi, ci, rfl, hi1, hi2, hsi⟩ := hri
  obtain ⟨n, hn⟩ : ∃ n, n = ids.length := ⟨_, rfl⟩
  rw [← hn] at hi1 hi2 ⊢
  rw [List.length_append] at hnl
  have hn2 : n ≤ 200 := by omega
  have HN := Lib.hid hn
  have HSI := Lib.hid hsi
  obtain ⟨A, hA⟩ : ∃ A, A = buckOf sa.loans := ⟨_, rfl⟩
  obtain ⟨B, hB⟩ : ∃ B, B = buckOf sb.loans := ⟨_, rfl⟩
  have HA := Lib.hid hA
  have HBB := Lib.hid hB
  clear hs hb1 HRA HRB C1 C2 hlt1 hlt2 HW hn hsi hnl hA hB
  go_wp2_with fail
  go_loopw [5, 7] (fun x5 x7 wr => ∃ (i : Nat) (v : Value), i ≤ n ∧ x7 = .int .i64 i ∧ v = x5 ∧ wr.ownsRow w1.heap.size 59 3 v ((ids.take i).flatMap (rowsOf A B)).length (((ids.take i).flatMap (rowsOf A B)).flatMap encE) ∧ Below w1.heap.size w1 wr) (fun _ y _ => n - (intOf y).toNat)
  case atStart => exact ⟨0, _, Nat.zero_le _, rfl, rfl, ⟨rfl, .inl ⟨rfl, rfl⟩⟩, Below.refl _ _⟩
  case round =>
    rename World => wo
    obtain ⟨i, v, hi, rfl, rfl, hown, hbel⟩ := hrel
    have HOWN := Lib.hid hown
    have HBO := Lib.hid hbel
    clear hown hbel
    by_cases hlt : i < n
    · have g1 : (i : Int) < (n : Int) := by omega
      obtain ⟨id, hx⟩ : ∃ x, ids[i]? = some x := ⟨ids[i]'(by have := HN.out; omega), List.getElem?_eq_getElem _⟩
      obtain ⟨gb, go, rfl, hgb, hc⟩ := HSI.out (by have := HN.out; omega)
      have e0 : w1.cell? ⟨gb, go + i, none⟩ = some (.int .i64 id) := by have := hc i id hx 0 _ rfl; rwa [Nat.mul_one, Nat.add_zero] at this
      have hst : Hid (ids.take (i + 1) = ids.take i ++ [id]) := Lib.hid (by rw [List.take_add_one, hx]; rfl)
      have E0 := Lib.hid e0
      obtain ⟨pre, hpre⟩ : ∃ pre, pre = (ids.take i).flatMap (rowsOf A B) := ⟨_, rfl⟩
      have hpl : Hid (pre.length ≤ 600) := Lib.hid (by
        rw [hpre]
        have := flat_len3 A B (ids.take i)
        rw [List.length_take] at this
        omega)
      rw [← hpre] at HOWN
      have hnext : Hid ((ids.take (i + 1)).flatMap (rowsOf A B) = pre ++ rowsOf A B id) := Lib.hid (by rw [hst.out, List.flatMap_append, ← hpre]; simp)
      clear e0 hx hc hpre
      go_wp2_with fail
      go_loopw [5, 8] (fun x5 x8 wr => ∃ (j : Nat) (v : Value), j ≤ 3 ∧ x8 = .int .i64 ((j : Int) + 1) ∧ v = x5 ∧ DrIn w1 wr A B pre id j v) (fun _ y _ => 4 - (intOf y).toNat)
      case atStart => exact ⟨0, _, Nat.zero_le _, rfl, rfl, by simpa using HOWN.out, HBO.out⟩
      case round =>
        rename World => wi
        obtain ⟨j, v, hj, rfl, rfl, hR⟩ := hrel
        obtain ⟨hown, hbel⟩ := hR
        have HO := Lib.hid hown
        have HB := Lib.hid hbel
        clear hown hbel
        by_cases hlj : j < 3
        · have g2 : (j : Int) + 1 ≤ 3 := by omega
          have X0 := (HB.out.cell (p := ⟨w.heap.size + 1, 1, none⟩) hlt4).trans D2.out
          have X1 := (HB.out.cell (p := ⟨w.heap.size, 1, none⟩) hlt3).trans D1.out
          have X2 := (HB.out.cell (p := ⟨gb, go + i, none⟩) hgb).trans E0.out
          go_wp2_with fail
          refine wp_region_held_drew (S := fun w' => w'.cell? ⟨w.heap.size + 1, 1, none⟩ = some vlb ∧ w'.cell? ⟨w.heap.size, 1, none⟩ = some vla ∧ w'.cell? ⟨gb, go + i, none⟩ = some (.int .i64 id)) (by kernel_rfl) ⟨X0, X1, X2⟩ (fun hHeld => ?_)
          refine take_op 0 (some 26) (v := ?_) rfl rfl (by kernel_rfl) (by kernel_rfl) (by kernel_rfl) (fun _ _ _ h => h) (Or.inl ⟨by rfl, ?_⟩) (by assumption) ?_
          rotate_left
          · intro w_ hSw_; (try dsimp only at hSw_); go_simp; (try with_reducible rfl)
          try simp only [Act.put, List.setIfInBounds_toArray, List.set_cons_zero, List.set_cons_succ]
          refine take_op 1 (some 27) (v := ?_) rfl rfl (by kernel_rfl) (by kernel_rfl) (by kernel_rfl) (fun _ _ _ h => h) (Or.inl ⟨by rfl, ?_⟩) (by assumption) ?_
          rotate_left
          · intro w_ hSw_; (try dsimp only at hSw_); go_simp; (try with_reducible rfl)
          try simp only [Act.put, List.setIfInBounds_toArray, List.set_cons_zero, List.set_cons_succ]
          refine take_op 2 (some 28) (v := ?_) rfl rfl (by kernel_rfl) (by kernel_rfl) (by kernel_rfl) (fun _ _ _ h => h) (Or.inl ⟨by rfl, ?_⟩) (by assumption) ?_
          rotate_left
          · intro w_ hSw_; (try dsimp only at hSw_); go_simp; (try with_reducible rfl)
          try simp only [Act.put, List.setIfInBounds_toArray, List.set_cons_zero, List.set_cons_succ]
          refine take_op 3 (some 29) (v := ?_) rfl rfl (by kernel_rfl) (by kernel_rfl) (by kernel_rfl) (fun _ _ _ h => h) (Or.inl ⟨by rfl, ?_⟩) (by assumption) ?_
          rotate_left
          · intro w_ hSw_; (try dsimp only at hSw_); go_simp; (try with_reducible rfl)
          try simp only [Act.put, List.setIfInBounds_toArray, List.set_cons_zero, List.set_cons_succ]
          refine take_op 4 (some 30) (v := ?_) rfl rfl (by kernel_rfl) (by kernel_rfl) (by kernel_rfl) (fun _ _ _ h => h) (Or.inl ⟨by rfl, ?_⟩) (by assumption) ?_
          rotate_left
          · intro w_ hSw_; (try dsimp only at hSw_); go_simp; (try with_reducible rfl)
          try simp only [Act.put, List.setIfInBounds_toArray, List.set_cons_zero, List.set_cons_succ]
          refine take_op 5 (some 31) (v := ?_) rfl rfl (by kernel_rfl) (by kernel_rfl) (by kernel_rfl) (fun _ _ _ h => h) (Or.inl ⟨by rfl, ?_⟩) (by assumption) ?_
          rotate_left
          · intro w_ hSw_; (try dsimp only at hSw_); go_simp; (try with_reducible rfl)
          try simp only [Act.put, List.setIfInBounds_toArray, List.set_cons_zero, List.set_cons_succ]
          refine take_op 6 (some 32) (v := ?_) rfl rfl (by kernel_rfl) (by kernel_rfl) (by kernel_rfl) (fun _ _ _ h => h) (Or.inl ⟨by rfl, ?_⟩) (by assumption) ?_
          rotate_left
          · intro w_ hSw_; (try dsimp only at hSw_); go_simp; (try with_reducible rfl)
          try simp only [Act.put, List.setIfInBounds_toArray, List.set_cons_zero, List.set_cons_succ]
          refine take_op 8 (some 34) (v := ?_) rfl rfl (by kernel_rfl) (by kernel_rfl) (by kernel_rfl) (fun _ _ _ h => h) (Or.inl ⟨by rfl, ?_⟩) (by assumption) ?_
          rotate_left
          · intro w_ hSw_; (try dsimp only at hSw_); go_simp; (try with_reducible rfl)
          try simp only [Act.put, List.setIfInBounds_toArray, List.set_cons_zero, List.set_cons_succ]
          refine take_op 9 (some 35) (v := ?_) rfl rfl (by kernel_rfl) (by kernel_rfl) (by kernel_rfl) (fun _ _ _ h => h) (Or.inl ⟨by rfl, ?_⟩) (by assumption) ?_
          rotate_left
          · intro w_ hSw_; (try dsimp only at hSw_); go_simp; (try with_reducible rfl)
          try simp only [Act.put, List.setIfInBounds_toArray, List.set_cons_zero, List.set_cons_succ]
          refine take_op 10 (some 36) (v := ?_) rfl rfl (by kernel_rfl) (by kernel_rfl) (by kernel_rfl) (fun _ _ _ h => h) (Or.inl ⟨by rfl, ?_⟩) (by assumption) ?_
          rotate_left
          · intro w_ hSw_; (try dsimp only at hSw_); go_simp; (try with_reducible rfl)
          try simp only [Act.put, List.setIfInBounds_toArray, List.set_cons_zero, List.set_cons_succ]
          refine take_op 11 (some 37) (v := ?_) rfl rfl (by kernel_rfl) (by kernel_rfl) (by kernel_rfl) (fun _ _ _ h => h) (Or.inl ⟨by rfl, ?_⟩) (by assumption) ?_
          rotate_left
          · intro w_ hSw_; (try dsimp only at hSw_); go_simp; (try with_reducible rfl)
          try simp only [Act.put, List.setIfInBounds_toArray, List.set_cons_zero, List.set_cons_succ]
          refine take_op 12 (some 38) (v := ?_) rfl rfl (by kernel_rfl) (by kernel_rfl) (by kernel_rfl) (fun _ _ _ h => h) (Or.inl ⟨by rfl, ?_⟩) (by assumption) ?_
          rotate_left
          · intro w_ hSw_; (try dsimp only at hSw_); go_simp; (try with_reducible rfl)
          try simp only [Act.put, List.setIfInBounds_toArray, List.set_cons_zero, List.set_cons_succ]
          refine take_op 13 (some 39) (v := ?_) rfl rfl (by kernel_rfl) (by kernel_rfl) (by kernel_rfl) (fun _ _ _ h => h) (Or.inl ⟨by rfl, ?_⟩) (by assumption) ?_
          rotate_left
          · intro w_ hSw_; (try dsimp only at hSw_); go_simp; (try with_reducible rfl)
          try simp only [Act.put, List.setIfInBounds_toArray, List.set_cons_zero, List.set_cons_succ]
          refine take_op 14 (some 40) (v := ?_) rfl rfl (by kernel_rfl) (by kernel_rfl) (by kernel_rfl) (fun _ _ _ h => h) (Or.inl ⟨by rfl, ?_⟩) (by assumption) ?_
          rotate_left
          · intro w_ hSw_; (try dsimp only at hSw_); go_simp; (try with_reducible rfl)
          try simp only [Act.put, List.setIfInBounds_toArray, List.set_cons_zero, List.set_cons_succ]
          refine go_op 7 rfl (by kernel_rfl) (fun K_ hK_ => ?_)
          go_simp
          refine (bof_any vlb sb.loans id ((j : Int) + 1) (by omega) wi.drew (HRB1.out.below HB.out.drew)).mono ?_
          rintro e w2 ⟨rfl, hb2⟩
          have hb2 := (Below.refl wi.heap.size wi).drew.trans hb2
          have HB2 := Lib.hid (HB.out.trans (hb2.mono HB.out.size))
          have HO2 := Lib.hid (owns_below HO.out hb2 (Nat.le_refl _))
          have Y0 := (HB2.out.cell (p := ⟨w.heap.size + 1, 1, none⟩) hlt4).trans D2.out
          have Y1 := (HB2.out.cell (p := ⟨w.heap.size, 1, none⟩) hlt3).trans D1.out
          have Y2 := (HB2.out.cell (p := ⟨gb, go + i, none⟩) hgb).trans E0.out
          try simp only [Act.put, List.setIfInBounds_toArray, List.set_cons_zero, List.set_cons_succ]
          refine hK_.out _ _ ⟨Y0, Y1, Y2⟩ (fun hHeld_ => ?_)
          refine go_op 15 rfl (by kernel_rfl) (fun K_ hK_ => ?_)
          go_simp
          refine (bof_any vla sa.loans id ((j : Int) + 1) (by omega) w2 (HRA1.out.below HB2.out)).mono ?_
          rintro e w3 ⟨rfl, hb3⟩
          have HB3 := Lib.hid (HB2.out.trans (hb3.mono HB2.out.size))
          have HO3 := Lib.hid (owns_below HO2.out hb3 (Nat.le_refl _))
          have Z0 := (HB3.out.cell (p := ⟨w.heap.size + 1, 1, none⟩) hlt4).trans D2.out
          have Z1 := (HB3.out.cell (p := ⟨w.heap.size, 1, none⟩) hlt3).trans D1.out
          have Z2 := (HB3.out.cell (p := ⟨gb, go + i, none⟩) hgb).trans E0.out
          try simp only [Act.put, List.setIfInBounds_toArray, List.set_cons_zero, List.set_cons_succ]
          refine hK_.out _ _ ⟨Z0, Z1, Z2⟩ (fun hHeld_ => ?_)
          refine take_op 16 (some 9) (v := ?_) rfl rfl (by kernel_rfl) (by kernel_rfl) (by kernel_rfl) (fun _ _ _ h => h) (Or.inl ⟨by rfl, ?_⟩) (by assumption) ?_
          rotate_left
          · intro w_ hSw_; (try dsimp only at hSw_); go_simp; (try with_reducible rfl)
          try simp only [Act.put, List.setIfInBounds_toArray, List.set_cons_zero, List.set_cons_succ]
          refine take_op 17 (some 10) (v := ?_) rfl rfl (by kernel_rfl) (by kernel_rfl) (by kernel_rfl) (fun _ _ _ h => h) (Or.inl ⟨by rfl, ?_⟩) (by assumption) ?_
          rotate_left
          · intro w_ hSw_; (try dsimp only at hSw_); go_simp; (try with_reducible rfl)
          try simp only [Act.put, List.setIfInBounds_toArray, List.set_cons_zero, List.set_cons_succ]
          refine wpAnyH_done (by kernel_rfl) ?_ _
          clear hHeld hHeld_ X0 X1 X2 Y0 Y1 Y2 Z0 Z1 hb2 hb3 HO HB HO2 HB2
          obtain ⟨x, hxv⟩ : ∃ x, x = valF sb.loans id ((j : Int) + 1) := ⟨_, rfl⟩
          obtain ⟨y, hyv⟩ : ∃ y, y = valF sa.loans id ((j : Int) + 1) := ⟨_, rfl⟩
          have hxi : in64 x := by rw [hxv]; exact valF_in HIB.out _ _
          have hyi : in64 y := by rw [hyv]; exact valF_in HIA.out _ _
          have hd : dOf A B (id, (j : Int) + 1) = x - y := by rw [HA.out, HBB.out, hxv, hyv]; rfl
          have htk : ([1, 2, 3] : List Int).take (j + 1) = ([1, 2, 3] : List Int).take j ++ [(j : Int) + 1] := by
            match j, hlj with
            | 0, _ => rfl
            | 1, _ => rfl
            | 2, _ => rfl
          have htl : (([1, 2, 3] : List Int).take j).length ≤ 3 := by rw [List.length_take]; simp; omega
          rw [← hxv, ← hyv]
          have HXI := Lib.hid hxi
          have HYI := Lib.hid hyi
          have HD := Lib.hid hd
          have HTK := Lib.hid htk
          have hql : Hid ((pre ++ (([1, 2, 3] : List Int).take j).filterMap (rowD A B id)).length ≤ 1000) := Lib.hid (by
            rw [List.length_append]
            have := List.length_filterMap_le (rowD A B id) (([1, 2, 3] : List Int).take j)
            have := hpl.out
            omega)
          clear hxv hyv hxi hyi hd htk htl
          by_cases hxy : x = y
          · subst hxy
            have hnone : Hid ((([1, 2, 3] : List Int).take (j + 1)).filterMap (rowD A B id) = (([1, 2, 3] : List Int).take j).filterMap (rowD A B id)) := Lib.hid (by
              rw [HTK.out, List.filterMap_append]
              have : rowD A B id ((j : Int) + 1) = none := by unfold rowD; rw [if_neg (fun h => h.1 (by rw [HD.out]; omega))]
              simp [this])
            go_wp2_with fail
            go_roundw
            case rel => exact ⟨j + 1, _, by omega, by go_num, rfl, by rw [hnone.out]; exact HO3.out, HB3.out⟩
            case measure => simp [intOf]; omega
          · go_wp2_with fail
            refine (fits_any x y HXI.out HYI.out _).mono ?_
            rintro e w4 ⟨rfl, hw4⟩
            have hw4 := hw4.symm
            subst hw4
            by_cases hin : in64 (x - y)
            · have hdec : decide (in64 (x - y)) = true := decide_eq_true hin
              rw [hdec]
              have hyes : Hid ((([1, 2, 3] : List Int).take (j + 1)).filterMap (rowD A B id) = (([1, 2, 3] : List Int).take j).filterMap (rowD A B id) ++ [(id, (j : Int) + 1, x - y)]) := Lib.hid (by
                rw [HTK.out, List.filterMap_append]
                have : rowD A B id ((j : Int) + 1) = some (id, (j : Int) + 1, x - y) := by unfold rowD; rw [HD.out, if_pos ⟨by omega, hin⟩]
                simp [this])
              have HWS : IntKind.i64.wrap (x - y) = x - y := by rw [IntKind.wrap_i64]; unfold in64 at hin; omega
              obtain ⟨fl, hfq⟩ : ∃ fl, fl = pre ++ (([1, 2, 3] : List Int).take j).filterMap (rowD A B id) := ⟨_, rfl⟩
              rw [← hfq] at HO3 hql
              have HFQ := Lib.hid hfq
              have HK : Hid (Blk (w3.alloc (.cells #[.int .i64 id, .int .i64 ((j : Int) + 1), .int .i64 (x - y)] 59)) w3.heap.size #[.int .i64 id, .int .i64 ((j : Int) + 1), .int .i64 (x - y)] 59) := Lib.hid (Blk.new _ _ _)
              have HBA : Hid (Below w3.heap.size w3 (w3.alloc (.cells #[.int .i64 id, .int .i64 ((j : Int) + 1), .int .i64 (x - y)] 59))) := Lib.hid ((Below.refl _ _).alloc (Nat.le_refl _) _)
              have HOA := Lib.hid (owns_below HO3.out HBA.out (Nat.le_refl _))
              have HSA := Lib.hid (HB3.out.trans (HBA.out.mono HB3.out.size))
              clear hdec hin hfq
              go_wp2_with (first | ((with_reducible refine at_appRows sl_rent rent_info rfl (by decide) encE_len encE_one (by decide) w1.heap.size v fl.length fl [(id, (j : Int) + 1, x - y)] (some ⟨w3.heap.size, 0, none⟩) 1 1 ?_ ?_ ?_ ?_ ?_ ?_ ?_ ?_); exact rfl; exact HOA.out; exact (SrcAt.one HK.out rfl); exact (by have := hql.out; omega); exact HSA.out.size; exact rfl; exact rfl; intro v5 w5 ho5 hg5 hv5) | fail)
              have HO5 : Hid (w5.ownsRow w1.heap.size 59 3 v5 (fl ++ [(id, (j : Int) + 1, x - y)]).length ((fl ++ [(id, (j : Int) + 1, x - y)]).flatMap encE)) := Lib.hid (by rw [List.length_append]; exact ho5)
              have HB5 := Lib.hid (HSA.out.trans (below_grown hg5 HSA.out.size (fun k hk => owns_block HOA.out k hk)))
              clear ho5 hg5 hv5
              go_wp2_with fail
              go_roundw
              case rel => exact ⟨j + 1, v5, by omega, by go_num, rfl, by rw [hyes.out, ← List.append_assoc, ← HFQ.out]; exact HO5.out, HB5.out⟩
              case measure => simp [intOf]; omega
            · have hdec : decide (in64 (x - y)) = false := decide_eq_false hin
              rw [hdec]
              have hnone : Hid ((([1, 2, 3] : List Int).take (j + 1)).filterMap (rowD A B id) = (([1, 2, 3] : List Int).take j).filterMap (rowD A B id)) := Lib.hid (by
                rw [HTK.out, List.filterMap_append]
                have : rowD A B id ((j : Int) + 1) = none := by unfold rowD; rw [if_neg (fun h => hin (by have h9 := h.2; rw [HD.out] at h9; exact h9))]
                simp [this])
              clear hdec hin
              go_wp2_with fail
              go_roundw
              case rel => exact ⟨j + 1, _, by omega, by go_num, rfl, by rw [hnone.out]; exact HO3.out, HB3.out⟩
              case measure => simp [intOf]; omega
        · have hj3 : j = 3 := by omega
          subst hj3
          have HO9 : Hid (wi.ownsRow w1.heap.size 59 3 v ((ids.take (i + 1)).flatMap (rowsOf A B)).length (((ids.take (i + 1)).flatMap (rowsOf A B)).flatMap encE)) := Lib.hid (by rw [hnext.out]; exact HO.out)
          go_wp2_with fail
          go_roundw
          case rel => exact ⟨i + 1, _, by omega, by go_num, rfl, HO9.out, HB.out⟩
          case measure => simp [intOf]; omega
    · have g1 : ¬ (i : Int) < (n : Int) := by omega
      have hin : n = i := by omega
      have hfin : Hid (ids.take i = ids) := Lib.hid (by rw [← hin, HN.out, List.take_length])
      clear hin
      go_wp2_with fail
      go_ret
      have hfl := flat_len3 A B ids
      rw [hfin.out] at HOWN
      refine ⟨_, _, rfl, told_rows HS.out, ?_, ?_, HB1.out.trans (HBO.out.mono HB1.out.size)⟩
      · rw [← HA.out, ← HBB.out]
        exact RowsAt.own encE_len HOWN.out rfl (by have := HN.out; omega)
      · rw [← HA.out, ← HBB.out]
        have := HN.out; omega
end Go.Proofs.Ytimiehnknehagaa
