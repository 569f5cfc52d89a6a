import Derived.Test.YtimiehnknehagaaCollectP
import Derived.Test.YtimiehnknehagaaSrt
import Derived.Shelf.SlSortCmp.NoneTotal
set_option linter.unusedSimpArgs false
set_option linter.unusedVariables false
namespace Go.Proofs.Ytimiehnknehagaa
open Go.RowKit Go.Shelf Go.Sort Go.Lib
/-! The order of pairs, as told's own closure compares them; the sort. -/
def cmpI (a b : Int) : Int := if a < b then -1 else if b < a then 1 else 0
def cmpK (x y : Int × Int) : Int := if cmpI x.1 y.1 ≠ 0 then cmpI x.1 y.1 else cmpI x.2 y.2
theorem isNaN_any (x : Int) (w : World) : Calls Try.prog 42 #[.int .i64 x] w fun e w' => e = .returned (.bool false) ∧ w' = w := by
  go_enter Try.func42, Try.ntmps42
  go_wp2
  go_ret
  exact ⟨rfl, rfl⟩
theorem compare_any (x y : Int) (w : World) : Calls Try.prog 38 #[.int .i64 x, .int .i64 y] w fun e w' => e = .returned (.int .i64 (cmpI x y)) ∧ w' = w := by
  unfold cmpI
  by_cases h1 : x < y
  · rw [if_pos h1]
    go_enter Try.func38, Try.ntmps38
    go_wp2_with ((with_reducible refine (isNaN_any _ _).mono ?_); rintro e w' ⟨rfl, rfl⟩)
    go_ret
    exact ⟨rfl, rfl⟩
  · by_cases h2 : y < x
    · rw [if_neg h1, if_pos h2]
      go_enter Try.func38, Try.ntmps38
      go_wp2_with ((with_reducible refine (isNaN_any _ _).mono ?_); rintro e w' ⟨rfl, rfl⟩)
      go_ret
      exact ⟨rfl, rfl⟩
    · rw [if_neg h1, if_neg h2]
      go_enter Try.func38, Try.ntmps38
      go_wp2_with ((with_reducible refine (isNaN_any _ _).mono ?_); rintro e w' ⟨rfl, rfl⟩)
      go_ret
      exact ⟨rfl, rfl⟩
theorem or_any (a c : Int) (b : Nat) (w : World) (h : Blk w b #[.int .i64 a, .int .i64 c] 3) : Calls Try.prog 37 #[.slice (some ⟨b, 0, none⟩) 2 2] w fun e w' => e = .returned (.int .i64 (if a ≠ 0 then a else c)) ∧ w' = w := by
  have c0 : w.cell? ⟨b, 0, none⟩ = some (.int .i64 a) := h.cell 0
  have c1 : w.cell? ⟨b, 1, none⟩ = some (.int .i64 c) := h.cell 1
  clear h
  by_cases ha : a = 0
  · subst ha
    rw [if_neg (by simp)]
    by_cases hc : c = 0
    · subst hc
      go_enter Try.func37, Try.ntmps37
      go_wp2
      refine wp_loop_rounds 3 ?_
      rw [rounds_succ]
      go_wp2
      rw [rounds_succ]
      go_wp2
      rw [rounds_succ]
      go_wp2
      go_ret
      exact ⟨rfl, rfl⟩
    · go_enter Try.func37, Try.ntmps37
      go_wp2
      refine wp_loop_rounds 3 ?_
      rw [rounds_succ]
      go_wp2
      rw [rounds_succ]
      go_wp2
      go_ret
      exact ⟨rfl, rfl⟩
  · rw [if_pos ha]
    go_enter Try.func37, Try.ntmps37
    go_wp2
    refine wp_loop_rounds 3 ?_
    rw [rounds_succ]
    go_wp2
    go_ret
    exact ⟨rfl, rfl⟩
set_option maxHeartbeats 2000000 in
theorem told1_any (x y : Int × Int) (w : World) : Calls Try.prog 36 #[.agg #[.int .i64 x.1, .int .i64 x.2], .agg #[.int .i64 y.1, .int .i64 y.2]] w fun e w' => e = .returned (.int .i64 (cmpK x y)) ∧ ∃ q os, w' = grow (w.drewN q) os := by
  obtain ⟨x1, x2⟩ := x
  obtain ⟨y1, y2⟩ := y
  unfold cmpK
  dsimp only
  obtain ⟨r1, hr1⟩ : ∃ r, r = cmpI x1 y1 := ⟨_, rfl⟩
  obtain ⟨r2, hr2⟩ : ∃ r, r = cmpI x2 y2 := ⟨_, rfl⟩
  rw [← hr1, ← hr2]
  obtain ⟨r3, hr3⟩ : ∃ r3, r3 = if r1 ≠ 0 then r1 else r2 := ⟨_, rfl⟩
  rw [← hr3]
  have R1 := Lib.hid hr1
  have R2 := Lib.hid hr2
  have R3 := Lib.hid hr3
  clear hr1 hr2 hr3
  have a1 := Blk.new w #[.int .i64 x1, .int .i64 x2] 63
  have a2 := a1.alloc (.cells #[.int .i64 y1, .int .i64 y2] 63)
  have b2 := Blk.new' (w.alloc (.cells #[.int .i64 x1, .int .i64 x2] 63)) #[.int .i64 y1, .int .i64 y2] 63 (n := w.heap.size + 1) (by simp)
  have A2 := Lib.hid a2
  have B2 := Lib.hid b2
  clear a1 a2 b2
  go_enter Try.func36, Try.ntmps36
  go_wp2_with fail
  try simp only [World.size_alloc]
  refine wp_region_held_drew (S := fun w' => w'.cell? ⟨w.heap.size, 0, none⟩ = some (.int .i64 x1) ∧ w'.cell? ⟨w.heap.size, 1, none⟩ = some (.int .i64 x2) ∧ w'.cell? ⟨w.heap.size + 1, 0, none⟩ = some (.int .i64 y1) ∧ w'.cell? ⟨w.heap.size + 1, 1, none⟩ = some (.int .i64 y2)) (by kernel_rfl) ⟨A2.out.cell 0, A2.out.cell 1, B2.out.cell 0, B2.out.cell 1⟩ (fun hHeld => ?_)
  refine take_op 0 (some 5) (v := ?_) rfl rfl (by kernel_rfl) (by kernel_rfl) (by kernel_rfl) (fun _ _ _ h => h) (Or.inl ⟨by rfl, ?_⟩) (by assumption) ?_
  rotate_left
  · intro w_ hSw_; (try dsimp only at hSw_); go_simp; (try with_reducible rfl)
  try simp only [Act.put, List.setIfInBounds_toArray, List.set_cons_zero, List.set_cons_succ]
  refine take_op 1 (some 6) (v := ?_) rfl rfl (by kernel_rfl) (by kernel_rfl) (by kernel_rfl) (fun _ _ _ h => h) (Or.inl ⟨by rfl, ?_⟩) (by assumption) ?_
  rotate_left
  · intro w_ hSw_; (try dsimp only at hSw_); go_simp; (try with_reducible rfl)
  try simp only [Act.put, List.setIfInBounds_toArray, List.set_cons_zero, List.set_cons_succ]
  refine take_op 2 (some 7) (v := ?_) rfl rfl (by kernel_rfl) (by kernel_rfl) (by kernel_rfl) (fun _ _ _ h => h) (Or.inl ⟨by rfl, ?_⟩) (by assumption) ?_
  rotate_left
  · intro w_ hSw_; (try dsimp only at hSw_); go_simp; (try with_reducible rfl)
  try simp only [Act.put, List.setIfInBounds_toArray, List.set_cons_zero, List.set_cons_succ]
  refine take_op 3 (some 8) (v := ?_) rfl rfl (by kernel_rfl) (by kernel_rfl) (by kernel_rfl) (fun _ _ _ h => h) (Or.inl ⟨by rfl, ?_⟩) (by assumption) ?_
  rotate_left
  · intro w_ hSw_; (try dsimp only at hSw_); go_simp; (try with_reducible rfl)
  try simp only [Act.put, List.setIfInBounds_toArray, List.set_cons_zero, List.set_cons_succ]
  refine take_op 5 (some 10) (v := ?_) rfl rfl (by kernel_rfl) (by kernel_rfl) (by kernel_rfl) (fun _ _ _ h => h) (Or.inl ⟨by rfl, ?_⟩) (by assumption) ?_
  rotate_left
  · intro w_ hSw_; (try dsimp only at hSw_); go_simp; (try with_reducible rfl)
  try simp only [Act.put, List.setIfInBounds_toArray, List.set_cons_zero, List.set_cons_succ]
  refine take_op 6 (some 11) (v := ?_) rfl rfl (by kernel_rfl) (by kernel_rfl) (by kernel_rfl) (fun _ _ _ h => h) (Or.inl ⟨by rfl, ?_⟩) (by assumption) ?_
  rotate_left
  · intro w_ hSw_; (try dsimp only at hSw_); go_simp; (try with_reducible rfl)
  try simp only [Act.put, List.setIfInBounds_toArray, List.set_cons_zero, List.set_cons_succ]
  refine take_op 7 (some 12) (v := ?_) rfl rfl (by kernel_rfl) (by kernel_rfl) (by kernel_rfl) (fun _ _ _ h => h) (Or.inl ⟨by rfl, ?_⟩) (by assumption) ?_
  rotate_left
  · intro w_ hSw_; (try dsimp only at hSw_); go_simp; (try with_reducible rfl)
  try simp only [Act.put, List.setIfInBounds_toArray, List.set_cons_zero, List.set_cons_succ]
  refine take_op 8 (some 13) (v := ?_) rfl rfl (by kernel_rfl) (by kernel_rfl) (by kernel_rfl) (fun _ _ _ h => h) (Or.inl ⟨by rfl, ?_⟩) (by assumption) ?_
  rotate_left
  · intro w_ hSw_; (try dsimp only at hSw_); go_simp; (try with_reducible rfl)
  try simp only [Act.put, List.setIfInBounds_toArray, List.set_cons_zero, List.set_cons_succ]
  refine go_op 4 rfl (by kernel_rfl) (fun K_ hK_ => ?_)
  go_simp
  refine (compare_any x1 y1 _).mono ?_
  rintro e w1 ⟨rfl, hw1⟩
  have hw1 := hw1.symm
  subst hw1
  rw [← R1.out]
  refine hK_.out _ _ ?_ (fun hHeld_ => ?_)
  · exact hHeld
  refine go_op 9 rfl (by kernel_rfl) (fun K_ hK_ => ?_)
  go_simp
  refine (compare_any x2 y2 _).mono ?_
  rintro e w1 ⟨rfl, hw1⟩
  have hw1 := hw1.symm
  subst hw1
  rw [← R2.out]
  refine hK_.out _ _ ?_ (fun hHeld_ => ?_)
  · exact hHeld
  refine go_op 10 rfl (by kernel_rfl) (fun K_ hK_ => ?_)
  go_simp
  have k0 := Blk.new ((w.alloc (.cells #[.int .i64 x1, .int .i64 x2] 63)).alloc (.cells #[.int .i64 y1, .int .i64 y2] 63)).drew #[.int .i64 r1, .int .i64 r2] 3
  have K0 := Lib.hid k0
  clear k0
  refine hK_.out _ _ ⟨(A2.out.drew.alloc _).cell 0, (A2.out.drew.alloc _).cell 1, (B2.out.drew.alloc _).cell 0, (B2.out.drew.alloc _).cell 1⟩ (fun hHeld_ => ?_)
  refine go_op 11 rfl (by kernel_rfl) (fun K_ hK_ => ?_)
  go_simp
  obtain ⟨wz, hwz⟩ : ∃ wz, wz = (((w.alloc (.cells #[.int .i64 x1, .int .i64 x2] 63)).alloc (.cells #[.int .i64 y1, .int .i64 y2] 63)).alloc (.cells #[.int .i64 r1, .int .i64 r2] 3)).drew := ⟨_, rfl⟩
  have hpz : ∃ q os, wz = grow (w.drewN q) os := ⟨1, _, by rw [hwz, alloc_eq_grow, alloc_eq_grow, alloc_eq_grow, grow_grow, grow_grow, drew_grow]; rfl⟩
  have hz0 : Blk wz (w.heap.size + 1 + 1) #[.int .i64 r1, .int .i64 r2] 3 := by
    rw [hwz]
    have h9 := K0.out
    have e9 : ((w.alloc (.cells #[.int .i64 x1, .int .i64 x2] 63)).alloc (.cells #[.int .i64 y1, .int .i64 y2] 63)).drew.heap.size = w.heap.size + 1 + 1 := by
      show ((w.alloc _).alloc _).heap.size = _
      rw [World.size_alloc, World.size_alloc]
    rw [e9] at h9
    exact h9
  have hHz : wz.cell? ⟨w.heap.size, 0, none⟩ = some (.int .i64 x1) ∧ wz.cell? ⟨w.heap.size, 1, none⟩ = some (.int .i64 x2) ∧ wz.cell? ⟨w.heap.size + 1, 0, none⟩ = some (.int .i64 y1) ∧ wz.cell? ⟨w.heap.size + 1, 1, none⟩ = some (.int .i64 y2) := by rw [hwz]; exact hHeld_
  rw [← hwz]
  clear hwz
  refine (or_any r1 r2 _ _ hz0).mono ?_
  rintro e w1 ⟨rfl, hw1⟩
  have hw1 := hw1.symm
  subst hw1
  rw [← R3.out]
  refine hK_.out _ _ ?_ (fun hHeld_ => ?_)
  · exact hHz
  refine take_op 12 (some 4) (v := ?_) rfl rfl (by kernel_rfl) (by kernel_rfl) (by kernel_rfl) (fun _ _ _ h => h) (Or.inl ⟨by rfl, ?_⟩) (by assumption) ?_
  rotate_left
  · intro w_ hSw_; (try dsimp only at hSw_); go_simp; (try with_reducible rfl)
  try simp only [Act.put, List.setIfInBounds_toArray, List.set_cons_zero, List.set_cons_succ]
  refine wpAnyH_done (by kernel_rfl) ?_ _
  go_wp2_with fail
  go_ret
  exact ⟨rfl, hpz⟩
end Go.Proofs.Ytimiehnknehagaa
