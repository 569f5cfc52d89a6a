import Derived.Test.YtimiehnknehagaaBuckP
import Derived.Test.YtimiehnknehagaaKeysP
set_option linter.unusedSimpArgs false
set_option linter.unusedVariables false
namespace Go.Proofs.Ytimiehnknehagaa
open Go.RowKit
/-- What is told of a map: rising, none of 0. -/
def IsTold (M : Int × Int → Option Int) (es : List Ent) : Prop := es.Pairwise (fun x y => ltK (keyE x) (keyE y)) ∧ ∀ x, x ∈ es ↔ M (keyE x) = some x.2.2 ∧ x.2.2 ≠ 0
theorem ltK_irrefl (x : Int × Int) : ¬ ltK x x := by unfold ltK; omega
theorem ltK_trans {x y z : Int × Int} (h1 : ltK x y) (h2 : ltK y z) : ltK x z := by unfold ltK at *; omega
theorem isTold_tell {M : Int × Int → Option Int} {L : List (Int × Int)} (h : SortedKeys (valK M) L) : IsTold M (tellL M L) := by
  obtain ⟨h1, h2⟩ := h
  have hmem : ∀ x, x ∈ tellL M L ↔ M (keyE x) = some x.2.2 ∧ x.2.2 ≠ 0 := by
    rintro ⟨a, b, d⟩
    unfold tellL tellK keyE
    simp only [List.mem_filterMap]
    constructor
    · rintro ⟨k, hk, he⟩
      split at he
      · rename_i hne
        obtain ⟨k1, k2⟩ := k
        have he := Option.some.inj he
        injection he with e1 e2
        injection e2 with e2 e3
        dsimp only at e1 e2 e3
        subst e1 e2
        have hs := (h2 (k1, k2)).1 hk
        unfold valK at hs
        cases hm : M (k1, k2) with
        | none => rw [hm] at hs; cases hs
        | some q =>
          rw [hm] at e3 hne
          dsimp only [Option.getD] at e3 hne ⊢
          subst e3
          exact ⟨rfl, hne⟩
      · cases he
    · rintro ⟨hm, hne⟩
      refine ⟨(a, b), (h2 (a, b)).2 (by unfold valK; rw [hm]; rfl), ?_⟩
      rw [hm]
      dsimp only [Option.getD]
      rw [if_pos hne]
  refine ⟨?_, hmem⟩
  unfold tellL
  refine List.Pairwise.filterMap (tellK M) ?_ h1
  intro k k' hlt x hx y hy
  unfold tellK at hx hy
  split at hx
  · split at hy
    · obtain rfl := Option.some.inj hx
      obtain rfl := Option.some.inj hy
      exact hlt
    · cases hy
  · cases hx
theorem sorted_ext {α : Type} {r : α → α → Prop} (hi : ∀ x, ¬ r x x) (ht : ∀ {x y z}, r x y → r y z → r x z) : ∀ {l m : List α}, l.Pairwise r → m.Pairwise r → (∀ x, x ∈ l ↔ x ∈ m) → l = m
  | [], [], _, _, _ => rfl
  | [], y :: m, _, _, h => by have := (h y).2 (by simp); cases this
  | x :: l, [], _, _, h => by have := (h x).1 (by simp); cases this
  | x :: l, y :: m, hl, hm, h => by
    rw [List.pairwise_cons] at hl hm
    have hxy : x = y := by
      rcases List.mem_cons.1 ((h x).1 (by simp)) with e | e
      · exact e
      · rcases List.mem_cons.1 ((h y).2 (by simp)) with e' | e'
        · exact e'.symm
        · exact absurd (ht (hl.1 y e') (hm.1 x e)) (hi x)
    subst hxy
    rw [sorted_ext hi (fun h1 h2 => ht h1 h2) hl.2 hm.2 (fun z => ?_)]
    constructor
    · intro hz
      rcases List.mem_cons.1 ((h z).1 (by simp [hz])) with e | e
      · subst e; exact absurd (hl.1 z hz) (hi z)
      · exact e
    · intro hz
      rcases List.mem_cons.1 ((h z).2 (by simp [hz])) with e | e
      · subst e; exact absurd (hm.1 z hz) (hi z)
      · exact e
theorem IsTold.unique {M : Int × Int → Option Int} {a b : List Ent} (ha : IsTold M a) (hb : IsTold M b) : a = b :=
  sorted_ext (r := fun x y => ltK (keyE x) (keyE y)) (fun _ => ltK_irrefl _) (fun h1 h2 => ltK_trans h1 h2) ha.1 hb.1 (fun x => (ha.2 x).trans (hb.2 x).symm)
/-- By how much each bucket rose, where that is a number. -/
def dOf (A B : Int × Int → Option Int) (k : Int × Int) : Int := (B k).getD 0 - (A k).getD 0
def diffM (A B : Int × Int → Option Int) (ks : List (Int × Int)) (k : Int × Int) : Option Int := if k ∈ ks ∧ in64 (dOf A B k) then some (dOf A B k) else none
def diffOf (A B : Int × Int → Option Int) (k : Int × Int) : Option Int := if ((A k).isSome ∨ (B k).isSome) ∧ in64 (dOf A B k) then some (dOf A B k) else none
theorem diffM_yes {A B : Int × Int → Option Int} {ks : List (Int × Int)} {k : Int × Int} (h : in64 (dOf A B k)) : updK (diffM A B ks) k (dOf A B k) = diffM A B (ks ++ [k]) := by
  funext j
  unfold updK diffM
  by_cases hj : j = k
  · subst hj
    rw [if_pos rfl, if_pos ⟨by simp, h⟩]
  · rw [if_neg hj]
    have : (j ∈ ks ++ [k]) ↔ j ∈ ks := by simp [hj]
    simp only [this]
theorem diffM_no {A B : Int × Int → Option Int} {ks : List (Int × Int)} {k : Int × Int} (h : ¬ in64 (dOf A B k)) : diffM A B (ks ++ [k]) = diffM A B ks := by
  funext j
  unfold diffM
  by_cases hj : j = k
  · subst hj
    rw [if_neg (fun hh => h hh.2), if_neg (fun hh => h hh.2)]
  · have : (j ∈ ks ++ [k]) ↔ j ∈ ks := by simp [hj]
    simp only [this]
theorem diffM_all {A B : Int × Int → Option Int} {k1 k2 : List (Int × Int)} (h1 : ∀ k, k ∈ k1 ↔ (A k).isSome = true) (h2 : ∀ k, k ∈ k2 ↔ (B k).isSome = true) : diffM A B (k1 ++ k2) = diffOf A B := by
  funext k
  unfold diffM diffOf
  simp only [List.mem_append, h1, h2]
theorem valK_some (M : Int × Int → Option Int) (k : Int × Int) : (valK M k).isSome = (M k).isSome := by unfold valK; simp
def DiffPost (la lb : List LoanM) (w : World) (e : Ending) (w' : World) : Prop :=
  ∃ v es, e = .returned v ∧ IsTold (diffOf (buckOf la) (buckOf lb)) es ∧ es.length ≤ la.length * 3 + lb.length * 3 ∧ w'.ownsRow w.heap.size 52 3 v es.length (es.flatMap encE) ∧ Below w.heap.size w w'
/-- At the head of an inner loop. -/
structure DiffI (w wr : World) (A B : Int × Int → Option Int) (ab bb mb fb r : Nat) (F : Int × Int → Option Int) (pre ks : List (Int × Int)) : Prop where
  ma : MapIs wr encK ab (valK A)
  mbb : MapIs wr encK bb (valK B)
  mm : MapIs wr encK mb (valK (diffM A B (pre ++ ks)))
  rng : Rng wr encK fb r (valK F) ks
  bel : Below w.heap.size w wr
theorem diff_count {la lb : List LoanM} {ks : List (Int × Int)} {A B : Int × Int → Option Int} (hA : A = buckOf la) (hB : B = buckOf lb) (h : ∀ k ∈ ks, (A k).isSome = true ∨ (B k).isSome = true) :
    ∀ l : List (Int × Int), l.Nodup → (∀ k ∈ l, (diffM A B ks k).isSome = true) → l.length ≤ la.length * 3 + lb.length * 3 := fun l h1 h2 => by
  have := nodup_le (m := buckKeys la ++ buckKeys lb) h1 (fun k hk => by
    have := h2 k hk
    unfold diffM at this
    split at this
    · rename_i hc
      subst hA hB
      rcases h k hc.1 with e | e
      · exact List.mem_append.2 (.inl (buck_keys e))
      · exact List.mem_append.2 (.inr (buck_keys e))
    · cases this)
  rw [List.length_append, buckKeys_len, buckKeys_len] at this
  exact this
set_option maxRecDepth 100000 in
set_option maxHeartbeats 8000000 in
theorem diff_any (va vb : Value) (sa sb : StateM) (hna : sa.loans.length ≤ 100000) (hnb : sb.loans.length ≤ 100000) (w : World) (ha : StAt w va sa) (hb : StAt w vb sb)
    (ia : ∀ x ∈ sa.loans, in64 x.principal ∧ in64 x.interest ∧ in64 x.fees) (ib : ∀ x ∈ sb.loans, in64 x.principal ∧ in64 x.interest ∧ in64 x.fees) :
    Calls Try.prog 11 #[va, vb] w (DiffPost sa.loans sb.loans w) := by
  obtain ⟨vla, vba, rfl, hla, hba⟩ := ha.cells
  obtain ⟨vlb, vbb, rfl, hlb, hbb⟩ := hb.cells
  obtain ⟨ada, ca, rfl, hla1, hla2, hlas⟩ := hla
  obtain ⟨vsa, hva, ⟨adba, cba, rfl, q1, q2, q3⟩, q4⟩ := hba
  obtain ⟨adb, cb, rfl, hlb1, hlb2, hlbs⟩ := hlb
  obtain ⟨vsb, hvb, ⟨adbb, cbb, rfl, p1, p2, p3⟩, p4⟩ := hbb
  obtain ⟨na, hna9⟩ : ∃ n, n = sa.loans.length := ⟨_, rfl⟩
  obtain ⟨nb, hnb9⟩ : ∃ n, n = sb.loans.length := ⟨_, rfl⟩
  obtain ⟨ma, hma9⟩ : ∃ n, n = vsa.length := ⟨_, rfl⟩
  obtain ⟨mb9, hmb9⟩ : ∃ n, n = vsb.length := ⟨_, rfl⟩
  have HSA := Lib.hid ha
  have HSB := Lib.hid hb
  clear ha hb hla1 hla2 hlas hva q1 q2 q3 q4 hlb1 hlb2 hlbs hvb p1 p2 p3 p4
  rw [← hna9, ← hma9] at HSA ⊢
  rw [← hnb9, ← hmb9] at HSB ⊢
  clear hna9 hma9 hnb9 hmb9
  obtain ⟨la, hla⟩ : ∃ l, l = sa.loans := ⟨_, rfl⟩
  obtain ⟨lb, hlb⟩ : ∃ l, l = sb.loans := ⟨_, rfl⟩
  rw [← hla] at hna ia ⊢
  rw [← hlb] at hnb ib ⊢
  have IA := Lib.hid (buck_in ia)
  have IB := Lib.hid (buck_in ib)
  have HLA := Lib.hid hla
  have HLB := Lib.hid hlb
  clear ia ib hla hlb
  have hmm := @run_makeMap Try.prog
  obtain ⟨i0, hi0, hi1⟩ : ∃ i, Try.prog.info? 60 = some i ∧ i.size = 1 := by
    have h := (show (Try.prog.info? 60).map (fun i => i.size) = some 1 by kernel_rfl)
    cases hq : Try.prog.info? 60 with
    | none => rw [hq] at h; cases h
    | some i => rw [hq] at h; exact ⟨i, rfl, by simpa using h⟩
  have hix0 := fun (x y : Value) w => (run_index2 (P := Try.prog) (T := 62) (e := 60) (by kernel_rfl) mapkey_u rfl hi0 hi1 x y w).1
  have hix1 := fun (x y : Value) w => (run_index2 (P := Try.prog) (T := 62) (e := 60) (by kernel_rfl) mapkey_u rfl hi0 hi1 x y w).2
  clear hi0 hi1
  obtain ⟨w0, hw0⟩ : ∃ w0, w0 = (w.alloc (.cells (stCells sa (.slice ada na ca) (.slice adba ma cba)) 27)).alloc (.cells (stCells sb (.slice adb nb cb) (.slice adbb mb9 cbb)) 27) := ⟨_, rfl⟩
  obtain ⟨b2, hb2⟩ : ∃ b2, b2 = w.heap.size + 1 := ⟨_, rfl⟩
  have hb0 : Below w.heap.size w w0 := by rw [hw0]; exact ((Below.refl _ w).alloc (Nat.le_refl _) _).alloc (by simp) _
  have k1 : Blk w0 w.heap.size (stCells sa (.slice ada na ca) (.slice adba ma cba)) 27 := by rw [hw0]; exact (Blk.new w _ _).alloc _
  have k2 : Blk w0 b2 (stCells sb (.slice adb nb cb) (.slice adbb mb9 cbb)) 27 := by rw [hw0, hb2]; exact Blk.new' _ _ _ (by simp)
  have HA0 := Lib.hid (HSA.out.below hb0)
  have HB0 := Lib.hid (HSB.out.below hb0)
  have HBE0 := Lib.hid hb0
  have K1 := Lib.hid k1
  have K2 := Lib.hid k2
  have C1 := Lib.hid k1.cell
  have C2 := Lib.hid k2.cell
  unfold stCells at hw0 C1 C2
  have HW0 := Lib.hid hw0
  have HB2 := Lib.hid hb2
  clear hb0 k1 k2 hw0 hb2
  unfold stCells
  go_enter Try.func11, Try.ntmps11
  go_wp2_with fail
  try simp only [World.size_alloc]
  rw [← HB2.out, ← HW0.out]
  clear HW0
  refine wp_region_held_drew (S := fun w' => (∀ j, w'.cell? ⟨w.heap.size, j, none⟩ = w0.cell? ⟨w.heap.size, j, none⟩) ∧ (∀ j, w'.cell? ⟨b2, j, none⟩ = w0.cell? ⟨b2, j, none⟩)) (by kernel_rfl) ⟨fun _ => rfl, fun _ => rfl⟩ (fun hHeld => ?_)
  have c1 := C1.out
  have c2 := C2.out
  refine take_op 0 (some 13) (v := ?_) rfl rfl (by kernel_rfl) (by kernel_rfl) (by kernel_rfl) (fun _ _ _ h => h) (Or.inl ⟨by rfl, ?_⟩) (by assumption) ?_
  rotate_left
  · intro w_ hSw_; (try dsimp only at hSw_); go_simp; (try with_reducible rfl)
  try simp only [Act.put, List.setIfInBounds_toArray, List.set_cons_zero, List.set_cons_succ]
  refine take_op 2 (some 15) (v := ?_) rfl rfl (by kernel_rfl) (by kernel_rfl) (by kernel_rfl) (fun _ _ _ h => h) (Or.inl ⟨by rfl, ?_⟩) (by assumption) ?_
  rotate_left
  · intro w_ hSw_; (try dsimp only at hSw_); go_simp; (try with_reducible rfl)
  try simp only [Act.put, List.setIfInBounds_toArray, List.set_cons_zero, List.set_cons_succ]
  clear c1 c2 C1 C2
  refine go_op 1 rfl (by kernel_rfl) (fun K_ hK_ => ?_)
  go_simp
  refine (buckets_any (.agg (stCells sa (.slice ada na ca) (.slice adba ma cba))) sa _ (HA0.out.below ((Below.refl _ w0).drew))).mono ?_
  rintro e w1 ⟨ab, rfl, hM1, hg1, hb1⟩
  have hb1 : Below w0.heap.size w0 w1 := (Below.refl _ w0).drew.trans hb1
  have HM1 := Lib.hid hM1
  have HB1 := Lib.hid hb1
  have HG1 : Hid (w0.heap.size ≤ ab) := Lib.hid hg1
  clear hM1 hg1 hb1
  rw [← HLA.out] at HM1
  refine hK_.out _ _ ?_ (fun hHeld_ => ?_)
  · exact ⟨fun j => HB1.out.cell (p := ⟨w.heap.size, j, none⟩) K1.out.lt, fun j => HB1.out.cell (p := ⟨b2, j, none⟩) K2.out.lt⟩
  refine go_op 3 rfl (by kernel_rfl) (fun K_ hK_ => ?_)
  go_simp
  refine (buckets_any (.agg (stCells sb (.slice adb nb cb) (.slice adbb mb9 cbb))) sb _ (HB0.out.below HB1.out)).mono ?_
  rintro e w2 ⟨bb, rfl, hM2, hg2, hb2⟩
  have HM2 := Lib.hid hM2
  have HM12 := Lib.hid (HM1.out.of_block (hb2.block ab HM1.out.lt))
  have HG2 : Hid (ab < bb) := Lib.hid (Nat.lt_of_lt_of_le HM1.out.lt hg2)
  have HBE2 := Lib.hid ((HBE0.out.trans (HB1.out.mono HBE0.out.size)).trans (hb2.mono (HBE0.out.trans (HB1.out.mono HBE0.out.size)).size))
  have hb02 := HB1.out.trans (hb2.mono HB1.out.size)
  clear hM2 hg2
  rw [← HLB.out] at HM2
  refine hK_.out _ _ ?_ (fun hHeld_ => ?_)
  · exact ⟨fun j => hb02.cell (p := ⟨w.heap.size, j, none⟩) K1.out.lt, fun j => hb02.cell (p := ⟨b2, j, none⟩) K2.out.lt⟩
  refine take_op 4 (some 5) (v := ?_) rfl rfl (by kernel_rfl) (by kernel_rfl) (by kernel_rfl) (fun _ _ _ h => h) (Or.inl ⟨by rfl, ?_⟩) (by assumption) ?_
  rotate_left
  · intro w_ hSw_; (try dsimp only at hSw_); go_simp; (try with_reducible rfl)
  try simp only [Act.put, List.setIfInBounds_toArray, List.set_cons_zero, List.set_cons_succ]
  refine take_op 5 (some 6) (v := ?_) rfl rfl (by kernel_rfl) (by kernel_rfl) (by kernel_rfl) (fun _ _ _ h => h) (Or.inl ⟨by rfl, ?_⟩) (by assumption) ?_
  rotate_left
  · intro w_ hSw_; (try dsimp only at hSw_); go_simp; (try with_reducible rfl)
  try simp only [Act.put, List.setIfInBounds_toArray, List.set_cons_zero, List.set_cons_succ]
  refine wpAnyH_done (by kernel_rfl) ?_ _
  have HNE : Hid (w.heap.size ≤ ab ∧ ab < bb) := Lib.hid ⟨by have := HG1.out; have := HBE0.out.size; omega, HG2.out⟩
  clear hHeld hHeld_ hb2 hb02 HG1 HG2 HA0 HB0 K1 K2 HB1 HM1 HSA HSB
  obtain ⟨A, hA⟩ : ∃ A, A = buckOf la := ⟨_, rfl⟩
  obtain ⟨B, hB⟩ : ∃ B, B = buckOf lb := ⟨_, rfl⟩
  rw [← hA] at HM12 IA
  rw [← hB] at HM2 IB
  have HAE := Lib.hid hA
  have HBE := Lib.hid hB
  have INA : Hid (∀ k, in64 ((A k).getD 0)) := Lib.hid (fun k => by
    cases hk : A k with
    | none => unfold in64; simp
    | some d => exact IA.out k d hk)
  have INB : Hid (∀ k, in64 ((B k).getD 0)) := Lib.hid (fun k => by
    cases hk : B k with
    | none => unfold in64; simp
    | some d => exact IB.out k d hk)
  clear hA hB IA IB
  obtain ⟨w3, hw3⟩ : ∃ w3, w3 = w2.alloc (.map #[] 0) := ⟨_, rfl⟩
  obtain ⟨mb, hmb⟩ : ∃ mb, mb = w2.heap.size := ⟨_, rfl⟩
  have HS : Hid (MapIs w3 encK ab (valK A) ∧ MapIs w3 encK bb (valK B) ∧ MapIs w3 encK mb (valK (diffM A B [])) ∧ Below w.heap.size w w3) := Lib.hid (by
    have hb3 : Below w2.heap.size w2 w3 := by rw [hw3]; exact (Below.refl _ _).alloc (Nat.le_refl _) _
    refine ⟨HM12.out.of_block (hb3.block ab HM12.out.lt), HM2.out.of_block (hb3.block bb HM2.out.lt), ?_, HBE2.out.trans (hb3.mono HBE2.out.size)⟩
    have := MapIs.new w2 encK
    rw [← hw3, ← hmb] at this
    have e : (fun _ : Int × Int => (none : Option Value)) = valK (diffM A B []) := by funext k; simp [valK, diffM]
    rw [e] at this
    exact this)
  have HWR : Hid (w.heap.size ≤ w3.heap.size) := Lib.hid HS.out.2.2.2.size
  have HMW : Hid (w.heap.size ≤ mb) := Lib.hid (by rw [hmb]; exact HBE2.out.size)
  have HNE : Hid (ab ≠ mb ∧ bb ≠ mb) := Lib.hid (by
    have h1 := HM12.out.lt
    have h2 := HM2.out.lt
    constructor <;> omega)
  have HMB := Lib.hid hmb
  have HW3 := Lib.hid hw3
  clear hmb hw3
  go_wp2_with fail
  rw [← HMB.out, ← HW3.out]
  clear HMB HW3 HM12 HM2 HBE2
  refine wp_loop_rounds 3 ?_
  rw [rounds_succ]
  go_wp2_with (first | (at_range; refine wpList_range_rng rfl _ 60 rfl mapkey_u rfl HS.out.1 ?_; intro w5 hr5 hb5 hs5) | go_in)
  go_frame
  have HI5 := Lib.hid (show DiffI w w5 A B ab bb mb ab w3.heap.size A [] [] from ⟨HS.out.1.of_block (hb5.block ab HS.out.1.lt), HS.out.2.1.of_block (hb5.block bb HS.out.2.1.lt), by rw [List.append_nil]; exact HS.out.2.2.1.of_block (hb5.block mb HS.out.2.2.1.lt), hr5, HS.out.2.2.2.trans (hb5.mono HS.out.2.2.2.size)⟩)
  have hmr : mb ≠ w3.heap.size := by have := HS.out.2.2.1.lt; omega
  have hlab := HS.out.1.lt
  have hlbb := HS.out.2.1.lt
  clear hr5 hb5 hs5
  go_loopw [10] (fun _ wr => ∃ ks : List (Int × Int), DiffI w wr A B ab bb mb ab w3.heap.size A [] ks) (fun _ wr => rngLeft wr ab w3.heap.size)
  case atStart => exact ⟨[], HI5.out⟩
  case round =>
    obtain ⟨ks, hI⟩ := hrel
    have HI := Lib.hid hI
    have hrg := hI.rng
    clear hI HI5
    go_wp2_with (first | (at_next; refine wpList_next_rng rfl _ rfl KK rfl hrg ?_ ?_) | go_in)
    · intro hall
      clear hrg
      have hk9 : Hid (∀ k, k ∈ ks ↔ (A k).isSome = true) := Lib.hid (by
        intro k
        obtain ⟨es, clock, seen, _, _, _, _, _, h6, _, h8⟩ := HI.out.rng
        constructor
        · intro hk; have := h8 k hk; rwa [valK_some] at this
        · intro hk; exact hall k.1 k.2 (by rw [valK_some]; exact hk))
      clear hall
      have HS2 := Lib.hid (show MapIs wr encK ab (valK A) ∧ MapIs wr encK bb (valK B) ∧ MapIs wr encK mb (valK (diffM A B ks)) ∧ Below w.heap.size w wr from ⟨HI.out.ma, HI.out.mbb, by have := HI.out.mm; rwa [List.nil_append] at this, HI.out.bel⟩)
      have HK1 := hk9
      clear hmr hlab hlbb HS HWR HI hk9
      obtain ⟨k1s, hk1s⟩ : ∃ k, k = ks := ⟨_, rfl⟩
      subst hk1s
      obtain ⟨w9, hw9⟩ : ∃ k, k = wr := ⟨_, rfl⟩
      subst hw9
      go_wp2_with fail
      rw [rounds_succ]
      have HS := HS2
      have HWR : Hid (w.heap.size ≤ w9.heap.size) := Lib.hid HS.out.2.2.2.size
      clear HS2
      go_wp2_with (first | (at_range; refine wpList_range_rng rfl _ 60 rfl mapkey_u rfl HS.out.2.1 ?_; intro w5 hr5 hb5 hs5) | go_in)
      go_frame
      have HI5 := Lib.hid (show DiffI w w5 A B ab bb mb bb w9.heap.size B k1s [] from ⟨HS.out.1.of_block (hb5.block ab HS.out.1.lt), HS.out.2.1.of_block (hb5.block bb HS.out.2.1.lt), by rw [List.append_nil]; exact HS.out.2.2.1.of_block (hb5.block mb HS.out.2.2.1.lt), hr5, HS.out.2.2.2.trans (hb5.mono HS.out.2.2.2.size)⟩)
      have hmr : mb ≠ w9.heap.size := by have := HS.out.2.2.1.lt; omega
      have hlab := HS.out.1.lt
      have hlbb := HS.out.2.1.lt
      clear hr5 hb5 hs5
      go_loopw [10] (fun _ wr => ∃ ks : List (Int × Int), DiffI w wr A B ab bb mb bb w9.heap.size B k1s ks) (fun _ wr => rngLeft wr bb w9.heap.size)
      case atStart => exact ⟨[], HI5.out⟩
      case round =>
        obtain ⟨ks, hI⟩ := hrel
        have HI := Lib.hid hI
        have hrg := hI.rng
        clear hI HI5
        go_wp2_with (first | (at_next; refine wpList_next_rng rfl _ rfl KK rfl hrg ?_ ?_) | go_in)
        · intro hall
          clear hrg
          have hk9 : Hid (∀ k, k ∈ ks ↔ (B k).isSome = true) := Lib.hid (by
            intro k
            obtain ⟨es, clock, seen, _, _, _, _, _, h6, _, h8⟩ := HI.out.rng
            constructor
            · intro hk; have := h8 k hk; rwa [valK_some] at this
            · intro hk; exact hall k.1 k.2 (by rw [valK_some]; exact hk))
          clear hall
          go_wp2_with fail
          rw [rounds_succ]
          go_wp2_with fail
          refine (told_any mb (la.length * 3 + lb.length * 3) (by omega) (diffM A B (k1s ++ ks)) (diff_count HAE.out HBE.out (fun k hk => by
            rcases List.mem_append.1 hk with e | e
            · exact .inl ((HK1.out k).1 e)
            · exact .inr ((hk9.out k).1 e))) wr HI.out.mm).mono ?_
          rintro e w7 ⟨v, L, rfl, h1, h2, h3, h4⟩
          have hB9 := HI.out.bel.trans (h4.mono HI.out.bel.size)
          have hO9 := owns_rebase h3 HI.out.bel.size
          have hT := isTold_tell h1
          have hl9 := tellL_len (diffM A B (k1s ++ ks)) L
          rw [diffM_all HK1.out hk9.out] at hT
          have hT9 : Hid (IsTold (diffOf (buckOf la) (buckOf lb)) (tellL (diffM A B (k1s ++ ks)) L)) := Lib.hid (by rw [← HAE.out, ← HBE.out]; rw [diffM_all HK1.out hk9.out] at *; exact hT)
          have hl8 : Hid ((tellL (diffM A B (k1s ++ ks)) L).length ≤ la.length * 3 + lb.length * 3) := Lib.hid (Nat.le_trans hl9 h2)
          clear h3 h4 hT hl9 h1
          go_wp2_with fail
          go_ret
          exact ⟨v, _, rfl, hT9.out, hl8.out, hO9, hB9⟩
        · intro k1 k2 v w2 hfk hnk hrg2 hlt9 ho2 hs2 hen
          have hne1 := HNE.out
          have hA2 : MapIs w2 encK ab (valK A) := HI.out.ma.of_block (ho2.block ab HI.out.ma.lt (fun e => by have := e; omega))
          have hB2 : MapIs w2 encK bb (valK B) := HI.out.mbb.of_block (ho2.block bb HI.out.mbb.lt (fun e => by have := e; omega))
          have hM2 : MapIs w2 encK mb (valK (diffM A B (k1s ++ ks))) := HI.out.mm.of_block (ho2.block mb HI.out.mm.lt hmr)
          have hBel2 : Below w.heap.size w w2 := HI.out.bel.trans (ho2.below HI.out.bel.size (fun k hk e => by have := HWR.out; omega))
          have hsz2 := hs2
          obtain ⟨w4, hw4⟩ : ∃ w4, w4 = w2.alloc (.cells #[.int .i64 k1, .int .i64 k2] 63) := ⟨_, rfl⟩
          have hb4 : Below w2.heap.size w2 w4 := by rw [hw4]; exact (Below.refl _ _).alloc (Nat.le_refl _) _
          have hk4 : Blk w4 w2.heap.size #[.int .i64 k1, .int .i64 k2] 63 := by rw [hw4]; exact Blk.new _ _ _
          have HA4 := Lib.hid (hA2.of_block (hb4.block ab hA2.lt))
          have HB4 := Lib.hid (hB2.of_block (hb4.block bb hB2.lt))
          have HM4 := Lib.hid (hM2.of_block (hb4.block mb hM2.lt))
          have HR4 := Lib.hid (hrg2.of_blocks (hb4.block bb hrg2.lt.1) (hb4.block w9.heap.size hrg2.lt.2.1))
          have HL9 := Lib.hid hlt9
          have HBE4 := Lib.hid (hBel2.trans (hb4.mono hBel2.size))
          have HK4 := Lib.hid hk4
          have HM2L := Lib.hid hM2.lt
          have HRL := Lib.hid hrg2.lt
          have HW4 := Lib.hid hw4
          unfold encK at hen
          clear hfk hnk hlt9 ho2 hs2 hA2 hB2 hM2 hBel2 hsz2 hb4 hk4 hw4 hrg hrg2
          go_wp2_with fail
          rw [← HW4.out]
          clear hen HW4
          have la := look_run (HA4.out.of_block (w' := w4.drew) rfl) k1 k2
          have lb := look_run (HB4.out.of_block (w' := w4.drew) rfl) k1 k2
          obtain ⟨x, hx⟩ : ∃ x, x = (A (k1, k2)).getD 0 := ⟨_, rfl⟩
          obtain ⟨y, hy⟩ : ∃ y, y = (B (k1, k2)).getD 0 := ⟨_, rfl⟩
          have hd : Hid (dOf A B (k1, k2) = y - x) := Lib.hid (by unfold dOf; rw [← hx, ← hy])
          have hinx : in64 x := by rw [hx]; exact INA.out (k1, k2)
          have hiny : in64 y := by rw [hy]; exact INB.out (k1, k2)
          rw [← hx] at la
          rw [← hy] at lb
          have HLESS := Lib.hid (less_any y x hiny hinx)
          clear hx hy hinx hiny
          refine wp_region_held_drew (S := fun w' => w'.cell? ⟨w2.heap.size, 0, none⟩ = some (.int .i64 k1) ∧ w'.cell? ⟨w2.heap.size, 1, none⟩ = some (.int .i64 k2) ∧ (Instr.lookup 60 (.map (some ab)) (.agg #[.int .i64 k1, .int .i64 k2]) false).run Try.prog w' = .ok (.int .i64 x) w' ∧ (Instr.lookup 60 (.map (some bb)) (.agg #[.int .i64 k1, .int .i64 k2]) false).run Try.prog w' = .ok (.int .i64 y) w') (by kernel_rfl) ⟨HK4.out.cell 0, HK4.out.cell 1, la, lb⟩ (fun hHeld => ?_)
          refine take_op 0 (some 31) (v := ?_) rfl rfl (by kernel_rfl) (by kernel_rfl) (by kernel_rfl) (fun _ _ _ h => h) (Or.inl ⟨by rfl, ?_⟩) (by assumption) ?_
          rotate_left
          · intro w_ hSw_; (try dsimp only at hSw_); go_simp; (try with_reducible rfl)
          try simp only [Act.put, List.setIfInBounds_toArray, List.set_cons_zero, List.set_cons_succ]
          refine take_op 1 (some 32) (v := ?_) rfl rfl (by kernel_rfl) (by kernel_rfl) (by kernel_rfl) (fun _ _ _ h => h) (Or.inl ⟨by rfl, ?_⟩) (by assumption) ?_
          rotate_left
          · intro w_ hSw_; (try dsimp only at hSw_); go_simp; (try with_reducible rfl)
          try simp only [Act.put, List.setIfInBounds_toArray, List.set_cons_zero, List.set_cons_succ]
          refine take_op 2 (some 33) (v := ?_) rfl rfl (by kernel_rfl) (by kernel_rfl) (by kernel_rfl) (fun _ _ _ h => h) (Or.inl ⟨by rfl, ?_⟩) (by assumption) ?_
          rotate_left
          · intro w_ hSw_; (try dsimp only at hSw_); go_simp; (try with_reducible rfl)
          try simp only [Act.put, List.setIfInBounds_toArray, List.set_cons_zero, List.set_cons_succ]
          refine take_op 3 (some 34) (v := ?_) rfl rfl (by kernel_rfl) (by kernel_rfl) (by kernel_rfl) (fun _ _ _ h => h) (Or.inl ⟨by rfl, ?_⟩) (by assumption) ?_
          rotate_left
          · intro w_ hSw_; (try dsimp only at hSw_); go_simp; (try with_reducible rfl)
          try simp only [Act.put, List.setIfInBounds_toArray, List.set_cons_zero, List.set_cons_succ]
          refine take_op 4 (some 35) (v := ?_) rfl rfl (by kernel_rfl) (by kernel_rfl) (by kernel_rfl) (fun _ _ _ h => h) (Or.inl ⟨by rfl, ?_⟩) (by assumption) ?_
          rotate_left
          · intro w_ hSw_; (try dsimp only at hSw_); go_simp; (try with_reducible rfl)
          try simp only [Act.put, List.setIfInBounds_toArray, List.set_cons_zero, List.set_cons_succ]
          refine take_op 5 (some 36) (v := ?_) rfl rfl (by kernel_rfl) (by kernel_rfl) (by kernel_rfl) (fun _ _ _ h => h) (Or.inl ⟨by rfl, ?_⟩) (by assumption) ?_
          rotate_left
          · intro w_ hSw_; (try dsimp only at hSw_); go_simp; (try with_reducible rfl)
          try simp only [Act.put, List.setIfInBounds_toArray, List.set_cons_zero, List.set_cons_succ]
          refine go_op 6 rfl (by kernel_rfl) (fun K_ hK_ => ?_)
          go_simp
          refine (HLESS.out _).mono ?_
          rintro e w5 ⟨rfl, hw5⟩
          have hw5 := hw5.symm
          subst hw5
          refine hK_.out _ _ ?_ (fun hHeld_ => ?_)
          · exact hHeld
          have c0 : w4.drew.cell? ⟨w2.heap.size, 0, none⟩ = some (.int .i64 k1) := HK4.out.cell 0
          have c1 : w4.drew.cell? ⟨w2.heap.size, 1, none⟩ = some (.int .i64 k2) := HK4.out.cell 1
          by_cases hin2 : in64 (y - x)
          · have hdec : decide (in64 (y - x)) = true := by simpa using hin2
            rw [hdec, wrap_in64 hin2]
            have HIN := Lib.hid hin2
            clear hin2 hdec
            refine take_op 7 (some 30) (v := ?_) rfl rfl (by kernel_rfl) (by kernel_rfl) (by kernel_rfl) (fun _ _ _ h => h) (Or.inl ⟨by rfl, ?_⟩) (by assumption) ?_
            rotate_left
            · intro w_ hSw_; (try dsimp only at hSw_); go_simp; (try with_reducible rfl)
            try simp only [Act.put, List.setIfInBounds_toArray, List.set_cons_zero, List.set_cons_succ]
            refine take_op 8 (some 38) (v := ?_) rfl rfl (by kernel_rfl) (by kernel_rfl) (by kernel_rfl) (fun _ _ _ h => h) (Or.inl ⟨by rfl, ?_⟩) (by assumption) ?_
            rotate_left
            · intro w_ hSw_; (try dsimp only at hSw_); go_simp; (try with_reducible rfl)
            try simp only [Act.put, List.setIfInBounds_toArray, List.set_cons_zero, List.set_cons_succ]
            refine take_op 9 (some 39) (v := ?_) rfl rfl (by kernel_rfl) (by kernel_rfl) (by kernel_rfl) (fun _ _ _ h => h) (Or.inl ⟨by rfl, ?_⟩) (by assumption) ?_
            rotate_left
            · intro w_ hSw_; (try dsimp only at hSw_); go_simp; (try with_reducible rfl)
            try simp only [Act.put, List.setIfInBounds_toArray, List.set_cons_zero, List.set_cons_succ]
            refine take_op 10 (some 11) (v := ?_) rfl rfl (by kernel_rfl) (by kernel_rfl) (by kernel_rfl) (fun _ _ _ h => h) (Or.inl ⟨by rfl, ?_⟩) (by assumption) ?_
            rotate_left
            · intro w_ hSw_; (try dsimp only at hSw_); go_simp; (try with_reducible rfl)
            try simp only [Act.put, List.setIfInBounds_toArray, List.set_cons_zero, List.set_cons_succ]
            refine take_op 11 (some 12) (v := ?_) rfl rfl (by kernel_rfl) (by kernel_rfl) (by kernel_rfl) (fun _ _ _ h => h) (Or.inl ⟨by rfl, ?_⟩) (by assumption) ?_
            rotate_left
            · intro w_ hSw_; (try dsimp only at hSw_); go_simp; (try with_reducible rfl)
            try simp only [Act.put, List.setIfInBounds_toArray, List.set_cons_zero, List.set_cons_succ]
            refine wpAnyH_done (by kernel_rfl) ?_ _
            clear hHeld hHeld_ la lb
            have HM5 := Lib.hid (HM4.out.of_block (w' := w4.drew) rfl)
            go_wp2_with (first | ((with_reducible refine at_mapPut KK mapkey_u HM5.out (k1, k2) (.int .i64 (y - x)) ?_ ?_ ?_ ?_); exact rfl; exact rfl; exact rfl; intro w6 hm6 ho6 hs6) | fail)
            have ho6 : Only (· = mb) w4 w6 := (Only.refl _ w4).drew.trans ho6
            have hm6 : MapIs w6 encK mb (valK (diffM A B (k1s ++ (ks ++ [(k1, k2)])))) := by
              rw [valK_upd] at hm6
              have := diffM_yes (A := A) (B := B) (ks := k1s ++ ks) (k := (k1, k2)) (by rw [hd.out]; exact HIN.out)
              rw [hd.out, List.append_assoc] at this
              rw [← this]
              exact hm6
            have hr6 := HR4.out.1.only ho6 (by have := HNE.out; have := HRL.out.1; omega) (Ne.symm hmr)
            have hne9 := HNE.out
            have HA6 := Lib.hid (HA4.out.only ho6 (by omega))
            have HB6 := Lib.hid (HB4.out.only ho6 (by omega))
            have HE6 := Lib.hid (HBE4.out.trans (ho6.below HBE4.out.size (fun k hk e => by have := HMW.out; omega)))
            go_roundw
            case rel => exact ⟨ks ++ [(k1, k2)], HA6.out, HB6.out, hm6, hr6.1, HE6.out⟩
            case measure => rw [hr6.2, HR4.out.2]; exact HL9.out
          · have hdec : decide (in64 (y - x)) = false := by simpa using hin2
            rw [hdec]
            have HIN := Lib.hid hin2
            clear hin2 hdec
            refine take_op 7 (some 30) (v := ?_) rfl rfl (by kernel_rfl) (by kernel_rfl) (by kernel_rfl) (fun _ _ _ h => h) (Or.inl ⟨by rfl, ?_⟩) (by assumption) ?_
            rotate_left
            · intro w_ hSw_; (try dsimp only at hSw_); go_simp; (try with_reducible rfl)
            try simp only [Act.put, List.setIfInBounds_toArray, List.set_cons_zero, List.set_cons_succ]
            refine take_op 8 (some 38) (v := ?_) rfl rfl (by kernel_rfl) (by kernel_rfl) (by kernel_rfl) (fun _ _ _ h => h) (Or.inl ⟨by rfl, ?_⟩) (by assumption) ?_
            rotate_left
            · intro w_ hSw_; (try dsimp only at hSw_); go_simp; (try with_reducible rfl)
            try simp only [Act.put, List.setIfInBounds_toArray, List.set_cons_zero, List.set_cons_succ]
            refine take_op 9 (some 39) (v := ?_) rfl rfl (by kernel_rfl) (by kernel_rfl) (by kernel_rfl) (fun _ _ _ h => h) (Or.inl ⟨by rfl, ?_⟩) (by assumption) ?_
            rotate_left
            · intro w_ hSw_; (try dsimp only at hSw_); go_simp; (try with_reducible rfl)
            try simp only [Act.put, List.setIfInBounds_toArray, List.set_cons_zero, List.set_cons_succ]
            refine take_op 10 (some 11) (v := ?_) rfl rfl (by kernel_rfl) (by kernel_rfl) (by kernel_rfl) (fun _ _ _ h => h) (Or.inl ⟨by rfl, ?_⟩) (by assumption) ?_
            rotate_left
            · intro w_ hSw_; (try dsimp only at hSw_); go_simp; (try with_reducible rfl)
            try simp only [Act.put, List.setIfInBounds_toArray, List.set_cons_zero, List.set_cons_succ]
            refine take_op 11 (some 12) (v := ?_) rfl rfl (by kernel_rfl) (by kernel_rfl) (by kernel_rfl) (fun _ _ _ h => h) (Or.inl ⟨by rfl, ?_⟩) (by assumption) ?_
            rotate_left
            · intro w_ hSw_; (try dsimp only at hSw_); go_simp; (try with_reducible rfl)
            try simp only [Act.put, List.setIfInBounds_toArray, List.set_cons_zero, List.set_cons_succ]
            refine wpAnyH_done (by kernel_rfl) ?_ _
            clear hHeld hHeld_ la lb
            go_wp2_with fail
            have hm6 : MapIs w4.drew encK mb (valK (diffM A B (k1s ++ (ks ++ [(k1, k2)])))) := by
              rw [← List.append_assoc, diffM_no (by rw [hd.out]; exact HIN.out)]
              exact HM4.out.of_block rfl
            have hr6 := HR4.out.1.of_blocks (w' := w4.drew) rfl rfl
            go_roundw
            case rel => exact ⟨ks ++ [(k1, k2)], HA4.out.of_block rfl, HB4.out.of_block rfl, hm6, hr6.1, HBE4.out.drew⟩
            case measure => rw [hr6.2, HR4.out.2]; exact HL9.out
    · intro k1 k2 v w2 hfk hnk hrg2 hlt9 ho2 hs2 hen
      have hne1 := HNE.out
      have hA2 : MapIs w2 encK ab (valK A) := HI.out.ma.of_block (ho2.block ab HI.out.ma.lt (fun e => by have := e; omega))
      have hB2 : MapIs w2 encK bb (valK B) := HI.out.mbb.of_block (ho2.block bb HI.out.mbb.lt (fun e => by have := e; omega))
      have hM2 : MapIs w2 encK mb (valK (diffM A B ([] ++ ks))) := HI.out.mm.of_block (ho2.block mb HI.out.mm.lt hmr)
      have hBel2 : Below w.heap.size w w2 := HI.out.bel.trans (ho2.below HI.out.bel.size (fun k hk e => by have := HWR.out; omega))
      have hsz2 := hs2
      obtain ⟨w4, hw4⟩ : ∃ w4, w4 = w2.alloc (.cells #[.int .i64 k1, .int .i64 k2] 63) := ⟨_, rfl⟩
      have hb4 : Below w2.heap.size w2 w4 := by rw [hw4]; exact (Below.refl _ _).alloc (Nat.le_refl _) _
      have hk4 : Blk w4 w2.heap.size #[.int .i64 k1, .int .i64 k2] 63 := by rw [hw4]; exact Blk.new _ _ _
      have HA4 := Lib.hid (hA2.of_block (hb4.block ab hA2.lt))
      have HB4 := Lib.hid (hB2.of_block (hb4.block bb hB2.lt))
      have HM4 := Lib.hid (hM2.of_block (hb4.block mb hM2.lt))
      have HR4 := Lib.hid (hrg2.of_blocks (hb4.block ab hrg2.lt.1) (hb4.block w3.heap.size hrg2.lt.2.1))
      have HL9 := Lib.hid hlt9
      have HBE4 := Lib.hid (hBel2.trans (hb4.mono hBel2.size))
      have HK4 := Lib.hid hk4
      have HM2L := Lib.hid hM2.lt
      have HRL := Lib.hid hrg2.lt
      have HW4 := Lib.hid hw4
      unfold encK at hen
      clear hfk hnk hlt9 ho2 hs2 hA2 hB2 hM2 hBel2 hsz2 hb4 hk4 hw4 hrg hrg2
      go_wp2_with fail
      rw [← HW4.out]
      clear hen HW4
      have la := look_run (HA4.out.of_block (w' := w4.drew) rfl) k1 k2
      have lb := look_run (HB4.out.of_block (w' := w4.drew) rfl) k1 k2
      obtain ⟨x, hx⟩ : ∃ x, x = (A (k1, k2)).getD 0 := ⟨_, rfl⟩
      obtain ⟨y, hy⟩ : ∃ y, y = (B (k1, k2)).getD 0 := ⟨_, rfl⟩
      have hd : Hid (dOf A B (k1, k2) = y - x) := Lib.hid (by unfold dOf; rw [← hx, ← hy])
      have hinx : in64 x := by rw [hx]; exact INA.out (k1, k2)
      have hiny : in64 y := by rw [hy]; exact INB.out (k1, k2)
      rw [← hx] at la
      rw [← hy] at lb
      have HLESS := Lib.hid (less_any y x hiny hinx)
      clear hx hy hinx hiny
      refine wp_region_held_drew (S := fun w' => w'.cell? ⟨w2.heap.size, 0, none⟩ = some (.int .i64 k1) ∧ w'.cell? ⟨w2.heap.size, 1, none⟩ = some (.int .i64 k2) ∧ (Instr.lookup 60 (.map (some ab)) (.agg #[.int .i64 k1, .int .i64 k2]) false).run Try.prog w' = .ok (.int .i64 x) w' ∧ (Instr.lookup 60 (.map (some bb)) (.agg #[.int .i64 k1, .int .i64 k2]) false).run Try.prog w' = .ok (.int .i64 y) w') (by kernel_rfl) ⟨HK4.out.cell 0, HK4.out.cell 1, la, lb⟩ (fun hHeld => ?_)
      refine take_op 0 (some 31) (v := ?_) rfl rfl (by kernel_rfl) (by kernel_rfl) (by kernel_rfl) (fun _ _ _ h => h) (Or.inl ⟨by rfl, ?_⟩) (by assumption) ?_
      rotate_left
      · intro w_ hSw_; (try dsimp only at hSw_); go_simp; (try with_reducible rfl)
      try simp only [Act.put, List.setIfInBounds_toArray, List.set_cons_zero, List.set_cons_succ]
      refine take_op 1 (some 32) (v := ?_) rfl rfl (by kernel_rfl) (by kernel_rfl) (by kernel_rfl) (fun _ _ _ h => h) (Or.inl ⟨by rfl, ?_⟩) (by assumption) ?_
      rotate_left
      · intro w_ hSw_; (try dsimp only at hSw_); go_simp; (try with_reducible rfl)
      try simp only [Act.put, List.setIfInBounds_toArray, List.set_cons_zero, List.set_cons_succ]
      refine take_op 2 (some 33) (v := ?_) rfl rfl (by kernel_rfl) (by kernel_rfl) (by kernel_rfl) (fun _ _ _ h => h) (Or.inl ⟨by rfl, ?_⟩) (by assumption) ?_
      rotate_left
      · intro w_ hSw_; (try dsimp only at hSw_); go_simp; (try with_reducible rfl)
      try simp only [Act.put, List.setIfInBounds_toArray, List.set_cons_zero, List.set_cons_succ]
      refine take_op 3 (some 34) (v := ?_) rfl rfl (by kernel_rfl) (by kernel_rfl) (by kernel_rfl) (fun _ _ _ h => h) (Or.inl ⟨by rfl, ?_⟩) (by assumption) ?_
      rotate_left
      · intro w_ hSw_; (try dsimp only at hSw_); go_simp; (try with_reducible rfl)
      try simp only [Act.put, List.setIfInBounds_toArray, List.set_cons_zero, List.set_cons_succ]
      refine take_op 4 (some 35) (v := ?_) rfl rfl (by kernel_rfl) (by kernel_rfl) (by kernel_rfl) (fun _ _ _ h => h) (Or.inl ⟨by rfl, ?_⟩) (by assumption) ?_
      rotate_left
      · intro w_ hSw_; (try dsimp only at hSw_); go_simp; (try with_reducible rfl)
      try simp only [Act.put, List.setIfInBounds_toArray, List.set_cons_zero, List.set_cons_succ]
      refine take_op 5 (some 36) (v := ?_) rfl rfl (by kernel_rfl) (by kernel_rfl) (by kernel_rfl) (fun _ _ _ h => h) (Or.inl ⟨by rfl, ?_⟩) (by assumption) ?_
      rotate_left
      · intro w_ hSw_; (try dsimp only at hSw_); go_simp; (try with_reducible rfl)
      try simp only [Act.put, List.setIfInBounds_toArray, List.set_cons_zero, List.set_cons_succ]
      refine go_op 6 rfl (by kernel_rfl) (fun K_ hK_ => ?_)
      go_simp
      refine (HLESS.out _).mono ?_
      rintro e w5 ⟨rfl, hw5⟩
      have hw5 := hw5.symm
      subst hw5
      refine hK_.out _ _ ?_ (fun hHeld_ => ?_)
      · exact hHeld
      have c0 : w4.drew.cell? ⟨w2.heap.size, 0, none⟩ = some (.int .i64 k1) := HK4.out.cell 0
      have c1 : w4.drew.cell? ⟨w2.heap.size, 1, none⟩ = some (.int .i64 k2) := HK4.out.cell 1
      by_cases hin2 : in64 (y - x)
      · have hdec : decide (in64 (y - x)) = true := by simpa using hin2
        rw [hdec, wrap_in64 hin2]
        have HIN := Lib.hid hin2
        clear hin2 hdec
        refine take_op 7 (some 30) (v := ?_) rfl rfl (by kernel_rfl) (by kernel_rfl) (by kernel_rfl) (fun _ _ _ h => h) (Or.inl ⟨by rfl, ?_⟩) (by assumption) ?_
        rotate_left
        · intro w_ hSw_; (try dsimp only at hSw_); go_simp; (try with_reducible rfl)
        try simp only [Act.put, List.setIfInBounds_toArray, List.set_cons_zero, List.set_cons_succ]
        refine take_op 8 (some 38) (v := ?_) rfl rfl (by kernel_rfl) (by kernel_rfl) (by kernel_rfl) (fun _ _ _ h => h) (Or.inl ⟨by rfl, ?_⟩) (by assumption) ?_
        rotate_left
        · intro w_ hSw_; (try dsimp only at hSw_); go_simp; (try with_reducible rfl)
        try simp only [Act.put, List.setIfInBounds_toArray, List.set_cons_zero, List.set_cons_succ]
        refine take_op 9 (some 39) (v := ?_) rfl rfl (by kernel_rfl) (by kernel_rfl) (by kernel_rfl) (fun _ _ _ h => h) (Or.inl ⟨by rfl, ?_⟩) (by assumption) ?_
        rotate_left
        · intro w_ hSw_; (try dsimp only at hSw_); go_simp; (try with_reducible rfl)
        try simp only [Act.put, List.setIfInBounds_toArray, List.set_cons_zero, List.set_cons_succ]
        refine take_op 10 (some 11) (v := ?_) rfl rfl (by kernel_rfl) (by kernel_rfl) (by kernel_rfl) (fun _ _ _ h => h) (Or.inl ⟨by rfl, ?_⟩) (by assumption) ?_
        rotate_left
        · intro w_ hSw_; (try dsimp only at hSw_); go_simp; (try with_reducible rfl)
        try simp only [Act.put, List.setIfInBounds_toArray, List.set_cons_zero, List.set_cons_succ]
        refine take_op 11 (some 12) (v := ?_) rfl rfl (by kernel_rfl) (by kernel_rfl) (by kernel_rfl) (fun _ _ _ h => h) (Or.inl ⟨by rfl, ?_⟩) (by assumption) ?_
        rotate_left
        · intro w_ hSw_; (try dsimp only at hSw_); go_simp; (try with_reducible rfl)
        try simp only [Act.put, List.setIfInBounds_toArray, List.set_cons_zero, List.set_cons_succ]
        refine wpAnyH_done (by kernel_rfl) ?_ _
        clear hHeld hHeld_ la lb
        have HM5 := Lib.hid (HM4.out.of_block (w' := w4.drew) rfl)
        go_wp2_with (first | ((with_reducible refine at_mapPut KK mapkey_u HM5.out (k1, k2) (.int .i64 (y - x)) ?_ ?_ ?_ ?_); exact rfl; exact rfl; exact rfl; intro w6 hm6 ho6 hs6) | fail)
        have ho6 : Only (· = mb) w4 w6 := (Only.refl _ w4).drew.trans ho6
        have hm6 : MapIs w6 encK mb (valK (diffM A B ([] ++ (ks ++ [(k1, k2)])))) := by
          rw [valK_upd] at hm6
          have := diffM_yes (A := A) (B := B) (ks := [] ++ ks) (k := (k1, k2)) (by rw [hd.out]; exact HIN.out)
          rw [hd.out, List.append_assoc] at this
          rw [← this]
          exact hm6
        have hr6 := HR4.out.1.only ho6 (by have := HNE.out; have := HRL.out.1; omega) (Ne.symm hmr)
        have hne9 := HNE.out
        have HA6 := Lib.hid (HA4.out.only ho6 (by omega))
        have HB6 := Lib.hid (HB4.out.only ho6 (by omega))
        have HE6 := Lib.hid (HBE4.out.trans (ho6.below HBE4.out.size (fun k hk e => by have := HMW.out; omega)))
        go_roundw
        case rel => exact ⟨ks ++ [(k1, k2)], HA6.out, HB6.out, hm6, hr6.1, HE6.out⟩
        case measure => rw [hr6.2, HR4.out.2]; exact HL9.out
      · have hdec : decide (in64 (y - x)) = false := by simpa using hin2
        rw [hdec]
        have HIN := Lib.hid hin2
        clear hin2 hdec
        refine take_op 7 (some 30) (v := ?_) rfl rfl (by kernel_rfl) (by kernel_rfl) (by kernel_rfl) (fun _ _ _ h => h) (Or.inl ⟨by rfl, ?_⟩) (by assumption) ?_
        rotate_left
        · intro w_ hSw_; (try dsimp only at hSw_); go_simp; (try with_reducible rfl)
        try simp only [Act.put, List.setIfInBounds_toArray, List.set_cons_zero, List.set_cons_succ]
        refine take_op 8 (some 38) (v := ?_) rfl rfl (by kernel_rfl) (by kernel_rfl) (by kernel_rfl) (fun _ _ _ h => h) (Or.inl ⟨by rfl, ?_⟩) (by assumption) ?_
        rotate_left
        · intro w_ hSw_; (try dsimp only at hSw_); go_simp; (try with_reducible rfl)
        try simp only [Act.put, List.setIfInBounds_toArray, List.set_cons_zero, List.set_cons_succ]
        refine take_op 9 (some 39) (v := ?_) rfl rfl (by kernel_rfl) (by kernel_rfl) (by kernel_rfl) (fun _ _ _ h => h) (Or.inl ⟨by rfl, ?_⟩) (by assumption) ?_
        rotate_left
        · intro w_ hSw_; (try dsimp only at hSw_); go_simp; (try with_reducible rfl)
        try simp only [Act.put, List.setIfInBounds_toArray, List.set_cons_zero, List.set_cons_succ]
        refine take_op 10 (some 11) (v := ?_) rfl rfl (by kernel_rfl) (by kernel_rfl) (by kernel_rfl) (fun _ _ _ h => h) (Or.inl ⟨by rfl, ?_⟩) (by assumption) ?_
        rotate_left
        · intro w_ hSw_; (try dsimp only at hSw_); go_simp; (try with_reducible rfl)
        try simp only [Act.put, List.setIfInBounds_toArray, List.set_cons_zero, List.set_cons_succ]
        refine take_op 11 (some 12) (v := ?_) rfl rfl (by kernel_rfl) (by kernel_rfl) (by kernel_rfl) (fun _ _ _ h => h) (Or.inl ⟨by rfl, ?_⟩) (by assumption) ?_
        rotate_left
        · intro w_ hSw_; (try dsimp only at hSw_); go_simp; (try with_reducible rfl)
        try simp only [Act.put, List.setIfInBounds_toArray, List.set_cons_zero, List.set_cons_succ]
        refine wpAnyH_done (by kernel_rfl) ?_ _
        clear hHeld hHeld_ la lb
        go_wp2_with fail
        have hm6 : MapIs w4.drew encK mb (valK (diffM A B ([] ++ (ks ++ [(k1, k2)])))) := by
          rw [← List.append_assoc, diffM_no (by rw [hd.out]; exact HIN.out)]
          exact HM4.out.of_block rfl
        have hr6 := HR4.out.1.of_blocks (w' := w4.drew) rfl rfl
        go_roundw
        case rel => exact ⟨ks ++ [(k1, k2)], HA4.out.of_block rfl, HB4.out.of_block rfl, hm6, hr6.1, HBE4.out.drew⟩
        case measure => rw [hr6.2, HR4.out.2]; exact HL9.out
end Go.Proofs.Ytimiehnknehagaa
