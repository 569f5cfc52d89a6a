import Derived.Test.YtcakellhellddaaGreatDoorFrMake2
import Derived.Test.YtcakellhellddaaGreatDoorRegInv
import Derived.Test.YtcakellhellddaaGreatDoorTy
set_option linter.unusedSimpArgs false
set_option linter.unusedVariables false
namespace Go.Proofs.YtcakellhellddaaGreatDoor
open Go.RowKit
theorem cat_two (a b : ByteArray) : a ++ b = catB [a, b] := by
  apply ByteArray.ext
  show (a ++ b).data = (([a, b] : List ByteArray).flatMap (·.data.toList)).toArray
  rw [ByteArray.data_append]
  simp
theorem cat_snoc (xs : List ByteArray) (b : ByteArray) : catB xs ++ b = catB (xs ++ [b]) := by
  apply ByteArray.ext
  show (catB xs ++ b).data = ((xs ++ [b]).flatMap (·.data.toList)).toArray
  rw [ByteArray.data_append]
  show (xs.flatMap (·.data.toList)).toArray ++ b.data = _
  simp
theorem lesL_two (n u v : Nat) : (⟨(lesL n [u, v]).toArray⟩ : ByteArray) = le n u ++ le n v := by
  apply ByteArray.ext
  rw [ByteArray.data_append]
  simp [lesL, le]
theorem secF_ref (num i k : Nat) (A : ByteArray) : le 4 num ++ le 2 i ++ le 2 k ++ A.extract (i * 244) ((i + 1) * 244) ++ le 4 num = secF num i k A := by
  unfold secF
  rw [lesL_two]
  apply ByteArray.ext
  rw [ByteArray.data_append, ByteArray.data_append, ByteArray.data_append, ByteArray.data_append]
  unfold catB
  simp [ByteArray.data_append]
theorem rfMake_bad (num : Nat) (s : ByteArray) (w : World) (h : num = 0 ∨ 60000 < s.size) :
    Calls Tryz.prog 62 #[.int .u32 num, .string s] w fun e w' => e = .returned (.tuple #[.slice none 0 0, .int .i64 (makeF num s).2]) ∧ w' = w := by
  by_cases h0 : num = 0
  · have hm : Hid ((makeF num s).2 = 1) := Lib.hid (by unfold makeF; rw [if_pos h0])
    rw [hm.out]
    subst h0
    go_enter Tryz.func62, Tryz.ntmps62
    go_wp2
    go_ret2
    exact ⟨rfl, rfl⟩
  · have h1 : 60000 < s.size := by rcases h with h | h; exact absurd h h0; exact h
    have hm : Hid ((makeF num s).2 = 2) := Lib.hid (by unfold makeF; rw [if_neg h0, if_pos h1])
    rw [hm.out]
    have hz : ((num : Int) == 0) = false := by simpa using (by omega : ¬ ((num : Int) = 0))
    clear h h0
    go_enter Tryz.func62, Tryz.ntmps62
    go_wp2
    go_ret2
    exact ⟨rfl, rfl⟩
theorem rpB (v n : Nat) (hn : n = 2 ∨ n = 4) (hv : v < 18446744073709551616) (w : World) :
    Calls Tryz.prog 71 #[.int .u64 v, .int .i64 n] w fun e w' => ∃ x : ByteArray, x = le n v ∧ x.size = n ∧ e = .returned (.string x) ∧ Below w.heap.size w w' :=
  (rpBytes_any v n hn hv w).mono fun e w' h => ⟨_, rfl, le_size n v, h.1, h.2⟩
set_option maxRecDepth 100000 in
set_option maxHeartbeats 1000000 in
theorem rfMake_any (num : Nat) (s : ByteArray) (w : World) (h0 : 0 < num) (hn : num < 4294967296) (hs : s.size ≤ 60000) :
    Calls Tryz.prog 62 #[.int .u32 num, .string s] w fun e w' => ∃ v, e = .returned (.tuple #[v, .int .i64 0]) ∧ Below w.heap.size w w' ∧ w'.ownsRow w.heap.size 9 1 v (sizeN s.size) ((secsF num s).map Value.string) := by
  have hz : ((num : Int) == 0) = false := by simpa using (by omega : ¬ ((num : Int) = 0))
  have hsz := Lib.hid hs
  have m4 : IntKind.u64.wrap (num : Int) = (num : Int) := by rw [IntKind.wrap_u64]; omega
  have m5 : IntKind.u64.wrap (s.size : Int) = (s.size : Int) := by rw [IntKind.wrap_u64]; omega
  go_enter Tryz.func62, Tryz.ntmps62
  go_wp2_with fail
  refine (rpB s.size 4 (.inr rfl) (by omega) _).mono ?_
  rintro e w1 ⟨x1, hx1, hx2, rfl, hb1⟩
  have HB1 : Hid (Below w.heap.size w w1) := Lib.hid hb1
  have q1 : ¬ 9223372036854775807 < x1.size + s.size := by omega
  have HX1 := Lib.hid hx1
  clear hb1 hx1 hx2
  go_wp2_with fail
  have hh : x1 ++ s = headF s := by rw [HX1.out]; exact cat_two _ _
  rw [hh]
  clear HX1 q1
  refine (refSum_any (headF s) w1 (by rw [headF_size]; omega)).mono ?_
  rintro e w3 ⟨rfl, hw3⟩
  have hw3 := hw3.symm
  subst hw3
  have hc := (sumF (headF s).data.toList).isLt
  have ht : tn (sumF (headF s).data.toList) = ((sumF (headF s).data.toList).toNat : Int) := rfl
  rw [ht]
  obtain ⟨c, hcc⟩ : ∃ c, c = (sumF (headF s).data.toList).toNat := ⟨_, rfl⟩
  rw [← hcc] at hc ⊢
  have HCC := Lib.hid hcc
  clear ht hcc hh hw3
  go_wp2_with fail
  refine (rpB c 4 (.inr rfl) (by omega) _).mono ?_
  rintro e w4 ⟨x4, hx4, hx5, rfl, hb4⟩
  have HB4 : Hid (Below w.heap.size w w4) := Lib.hid (HB1.out.trans (hb4.mono HB1.out.size))
  have q1 : ¬ 9223372036854775807 < (headF s).size + x4.size := by rw [headF_size]; omega
  have HX1 := Lib.hid hx4
  clear hb4 hx4 hx5
  go_wp2_with fail
  have hh : headF s ++ x4 = bodyF s := by rw [HX1.out, HCC.out]; exact cat_two _ _
  rw [hh]
  clear HX1 q1 HB1
  refine (rfSize_any s.size _).mono ?_
  rintro e w6 ⟨rfl, hw6⟩
  have hw6 := hw6.symm
  subst hw6
  rw [sizeF_nat hs]
  have k1 := sizeN_pos s.size
  have k2 := sizeN_le hs
  have k3 := sizeN_room s.size
  have k4 := bodyF_size s
  obtain ⟨k, hk⟩ : ∃ k, k = sizeN s.size := ⟨_, rfl⟩
  rw [← hk] at k1 k2 k3 ⊢
  have HK := Lib.hid hk
  have hk9 : Hid (((k : Int) * 244 - ((s.size : Int) + 8)) = ((k * 244 - (s.size + 8) : Nat) : Int)) := Lib.hid (by omega)
  clear hk hh hw6
  obtain ⟨z, hz9⟩ : ∃ z, z = k * 244 - (s.size + 8) := ⟨_, rfl⟩
  rw [← hz9] at hk9
  have hzb : z ≤ 100000 := by omega
  have HZ := Lib.hid hz9
  clear hz9
  go_wp2_with (first | ((with_reducible refine at_makeB sl_u8p u8_infop .i64 .i64 z ?_ ?_ ?_ ?_ ?_); exact congrArg (Value.int IntKind.i64) hk9.out; exact congrArg (Value.int IntKind.i64) hk9.out; omega; omega; intro w7 hb7 hz7 hr7; replace hr7 := Lib.hid hr7; have q1 : (bodyF s).size + (List.replicate z (0 : UInt8)).toArray.size ≤ 9223372036854775807 := by (rw [bodyF_size, List.size_toArray, List.length_replicate]; omega)) | ((with_reducible refine at_toStr sl_u8p u8_up str_up w4.heap.size 0 z (List.replicate z 0) z ?_ ?_ ?_ ?_); exact List.length_replicate.symm; exact rfl; (intro j hj; rw [Nat.zero_add]; exact (hr7.out j hj).1)))
  have hh : bodyF s ++ (⟨Array.replicate z 0⟩ : ByteArray) = allF s := by
    rw [cat_two]
    unfold allF zerosN
    rw [← HK.out, bodyF_size, ← HZ.out]
    simp
  rw [hh]
  have HB7 : Hid (Below w.heap.size w w7) := Lib.hid (HB4.out.trans (hb7.mono HB4.out.size))
  clear hb7 hz7 hr7 q1 k3 k4 hk9 HB4 hh HZ hzb
  have ha := Lib.hid (allF_size s)
  obtain ⟨A, hA⟩ : ∃ A, A = allF s := ⟨_, rfl⟩
  rw [← hA] at ha ⊢
  rw [← HK.out] at ha
  have HA := Lib.hid hA
  clear hA
  refine (rpB num 4 (.inr rfl) (by omega) _).mono ?_
  rintro e w8 ⟨x8, hx8, hx9, rfl, hb8⟩
  have HB8 : Hid (Below w.heap.size w w8) := Lib.hid (HB7.out.trans (hb8.mono HB7.out.size))
  have HX8 := Lib.hid hx8
  have HX9 := Lib.hid hx9
  clear hx8 hx9 hb8 HB7
  go_wp2_with fail
  go_loopw [9, 10] (fun v x wr => ∃ i : Nat, i ≤ k ∧ x = .int .i64 i ∧ Below w.heap.size w wr ∧ wr.ownsRow w.heap.size 9 1 v i ((List.range i).map fun j => Value.string (secF num j k A))) (fun _ x _ => k - (intOf x).toNat)
  case atStart => exact ⟨0, Nat.zero_le _, rfl, HB8.out, rfl, .inl ⟨rfl, rfl⟩⟩
  case round =>
    clear HB8
    obtain ⟨i, hi, rfl, hB, hR⟩ := hrel
    have HB := Lib.hid hB
    have HR := Lib.hid hR
    clear hB hR
    by_cases hlt : i < k
    · go_wp2_with fail
      refine wp_region_held_drew (S := fun w' => Below w.heap.size w w') (by kernel_rfl) HB.out.drew (fun hHeld => ?_)
      obtain ⟨lo, hlo⟩ : ∃ lo, lo = i * 244 := ⟨_, rfl⟩
      obtain ⟨hi2, hhi⟩ : ∃ hi, hi = (i + 1) * 244 := ⟨_, rfl⟩
      have m1 : IntKind.i64.wrap ((i : Int) * 244) = (lo : Int) := by rw [IntKind.wrap_i64]; omega
      have m2 : IntKind.i64.wrap ((i : Int) + 1) = (i : Int) + 1 := by rw [IntKind.wrap_i64]; omega
      have m3 : IntKind.i64.wrap (((i : Int) + 1) * 244) = (hi2 : Int) := by rw [IntKind.wrap_i64]; omega
      have m5 : IntKind.u64.wrap (i : Int) = (i : Int) := by rw [IntKind.wrap_u64]; omega
      have m6 : IntKind.u64.wrap (k : Int) = (k : Int) := by rw [IntKind.wrap_u64]; omega
      have p1 : (lo : Int) ≤ (hi2 : Int) := by omega
      have p2 : (hi2 : Int) ≤ (A.size : Int) := by rw [ha.out]; omega
      obtain ⟨y, hy⟩ : ∃ y, y = A.extract lo hi2 := ⟨_, rfl⟩
      have hys := Lib.hid (show y.size ≤ 244 by rw [hy, ByteArray.size_extract]; omega)
      have HYY := Lib.hid hy
      clear hy
      have HLO := Lib.hid hlo
      have HHI := Lib.hid hhi
      clear hlo hhi
      refine take_op 0 (some 48) (v := ?_) rfl rfl (by kernel_rfl) (by kernel_rfl) (by kernel_rfl) (fun _ _ _ h => h) (Or.inl ⟨by rfl, ?_⟩) (by assumption) ?_
      rotate_left
      · intro w_ hSw_; (try dsimp only at hSw_); go_simp; (try with_reducible rfl)
      try simp only [Act.put, List.setIfInBounds_toArray, List.set_cons_zero, List.set_cons_succ]
      refine take_op 1 (some 49) (v := ?_) rfl rfl (by kernel_rfl) (by kernel_rfl) (by kernel_rfl) (fun _ _ _ h => h) (Or.inl ⟨by rfl, ?_⟩) (by assumption) ?_
      rotate_left
      · intro w_ hSw_; (try dsimp only at hSw_); go_simp; (try with_reducible rfl)
      try simp only [Act.put, List.setIfInBounds_toArray, List.set_cons_zero, List.set_cons_succ]
      refine take_op 2 (some 50) (v := ?_) rfl rfl (by kernel_rfl) (by kernel_rfl) (by kernel_rfl) (fun _ _ _ h => h) (Or.inl ⟨by rfl, ?_⟩) (by assumption) ?_
      rotate_left
      · intro w_ hSw_; (try dsimp only at hSw_); go_simp; (try with_reducible rfl)
      try simp only [Act.put, List.setIfInBounds_toArray, List.set_cons_zero, List.set_cons_succ]
      refine take_op 3 (some 51) (v := ?_) rfl rfl (by kernel_rfl) (by kernel_rfl) (by kernel_rfl) (fun _ _ _ h => h) (Or.inl ⟨by rfl, ?_⟩) (by assumption) ?_
      rotate_left
      · intro w_ hSw_; (try dsimp only at hSw_); go_simp; (try with_reducible rfl)
      try simp only [Act.put, List.setIfInBounds_toArray, List.set_cons_zero, List.set_cons_succ]
      refine take_op 6 (some 54) (v := ?_) rfl rfl (by kernel_rfl) (by kernel_rfl) (by kernel_rfl) (fun _ _ _ h => h) (Or.inl ⟨by rfl, ?_⟩) (by assumption) ?_
      rotate_left
      · intro w_ hSw_; (try dsimp only at hSw_); go_simp; (try with_reducible rfl)
      try simp only [Act.put, List.setIfInBounds_toArray, List.set_cons_zero, List.set_cons_succ]
      refine take_op 7 (some 55) (v := ?_) rfl rfl (by kernel_rfl) (by kernel_rfl) (by kernel_rfl) (fun _ _ _ h => h) (Or.inl ⟨by rfl, ?_⟩) (by assumption) ?_
      rotate_left
      · intro w_ hSw_; (try dsimp only at hSw_); go_simp; (try with_reducible rfl)
      try simp only [Act.put, List.setIfInBounds_toArray, List.set_cons_zero, List.set_cons_succ]
      refine take_op 10 (some 58) (v := ?_) rfl rfl (by kernel_rfl) (by kernel_rfl) (by kernel_rfl) (fun _ _ _ h => h) (Or.inl ⟨by rfl, ?_⟩) (by assumption) ?_
      rotate_left
      · intro w_ hSw_; (try dsimp only at hSw_); go_simp; (try with_reducible rfl)
      try simp only [Act.put, List.setIfInBounds_toArray, List.set_cons_zero, List.set_cons_succ]
      refine take_op 11 (some 59) (v := ?_) rfl rfl (by kernel_rfl) (by kernel_rfl) (by kernel_rfl) (fun _ _ _ h => h) (Or.inl ⟨by rfl, ?_⟩) (by assumption) ?_
      rotate_left
      · intro w_ hSw_; (try dsimp only at hSw_); go_simp; (try with_reducible rfl)
      try simp only [Act.put, List.setIfInBounds_toArray, List.set_cons_zero, List.set_cons_succ]
      refine take_op 12 (some 60) (v := ?_) rfl rfl (by kernel_rfl) (by kernel_rfl) (by kernel_rfl) (fun _ _ _ h => h) (Or.inl ⟨by rfl, ?_⟩) (by assumption) ?_
      rotate_left
      · intro w_ hSw_; (try dsimp only at hSw_); go_simp; (try with_reducible rfl)
      try simp only [Act.put, List.setIfInBounds_toArray, List.set_cons_zero, List.set_cons_succ]
      refine take_op 13 (some 61) (v := ?_) rfl rfl (by kernel_rfl) (by kernel_rfl) (by kernel_rfl) (fun _ _ _ h => h) (Or.inl ⟨by rfl, ?_⟩) (by assumption) ?_
      rotate_left
      · intro w_ hSw_; (try dsimp only at hSw_); go_simp; (try with_reducible rfl)
      try simp only [Act.put, List.setIfInBounds_toArray, List.set_cons_zero, List.set_cons_succ]
      refine take_op 14 (some 62) (v := ?_) rfl rfl (by kernel_rfl) (by kernel_rfl) (by kernel_rfl) (fun _ _ _ h => h) (Or.inl ⟨by rfl, ?_⟩) (by assumption) ?_
      rotate_left
      · intro w_ hSw_; (try dsimp only at hSw_); go_simp; (try with_reducible rfl)
      try simp only [Act.put, List.setIfInBounds_toArray, List.set_cons_zero, List.set_cons_succ]
      refine take_op 15 (some 63) (v := ?_) rfl rfl (by kernel_rfl) (by kernel_rfl) (by kernel_rfl) (fun _ _ _ h => h) (Or.inl ⟨by rfl, ?_⟩) (by assumption) ?_
      rotate_left
      · intro w_ hSw_; (try dsimp only at hSw_); go_simp; (try with_reducible rfl)
      try simp only [Act.put, List.setIfInBounds_toArray, List.set_cons_zero, List.set_cons_succ]
      refine take_op 16 (some 64) (v := ?_) rfl rfl (by kernel_rfl) (by kernel_rfl) (by kernel_rfl) (fun _ _ _ h => h) (Or.inl ⟨by rfl, ?_⟩) (by assumption) ?_
      rotate_left
      · intro w_ hSw_; (try dsimp only at hSw_); go_simp; (try with_reducible rfl)
      try simp only [Act.put, List.setIfInBounds_toArray, List.set_cons_zero, List.set_cons_succ]
      rw [← HYY.out]
      refine take_op 18 (some 66) (v := ?_) rfl rfl (by kernel_rfl) (by kernel_rfl) (by kernel_rfl) (fun _ _ _ h => h) (Or.inl ⟨by rfl, ?_⟩) (by assumption) ?_
      rotate_left
      · intro w_ hSw_; (try dsimp only at hSw_); go_simp; (try with_reducible rfl)
      try simp only [Act.put, List.setIfInBounds_toArray, List.set_cons_zero, List.set_cons_succ]
      refine go_op 4 rfl (by kernel_rfl) (fun K_ hK_ => ?_)
      go_simp
      refine (rpB i 2 (.inl rfl) (by omega) _).mono ?_
      rintro e w9 ⟨x9, hx9, hx10, rfl, hb9⟩
      have q1 : ¬ 9223372036854775807 < x8.size + x9.size := by rw [HX9.out]; omega
      have hh9 : Hid (Below w.heap.size w w9) := Lib.hid ((HB.out.drew).trans (hb9.mono HB.out.size))
      have HX := Lib.hid hx9
      have HY : Hid ((x8 ++ x9).size = 6) := Lib.hid (by rw [ByteArray.size_append, HX9.out, hx10])
      have HO9 := Lib.hid (owns_below (owns_below HR.out ((Below.refl _ _).drew) (Nat.le_refl _)) hb9 (Nat.le_refl _))
      clear hx9 hx10 hb9
      simp only [Act.put, List.setIfInBounds_toArray, List.set_cons_zero, List.set_cons_succ]
      refine hK_.out _ _ hh9.out (fun hHeld_ => ?_)
      clear hHeld
      refine take_op 5 (some 53) (v := ?_) rfl rfl (by kernel_rfl) (by kernel_rfl) (by kernel_rfl) (fun _ _ _ h => h) (Or.inl ⟨by rfl, ?_⟩) (by assumption) ?_
      rotate_left
      · intro w_ hSw_; (try dsimp only at hSw_); go_simp; (try with_reducible rfl)
      try simp only [Act.put, List.setIfInBounds_toArray, List.set_cons_zero, List.set_cons_succ]
      clear q1
      refine go_op 8 rfl (by kernel_rfl) (fun K_ hK_ => ?_)
      go_simp
      refine (rpB k 2 (.inl rfl) (by omega) _).mono ?_
      rintro e w10 ⟨x10, hx11, hx12, rfl, hb10⟩
      have q1 : ¬ 9223372036854775807 < x8.size + x9.size + x10.size := by have h := HY.out; rw [ByteArray.size_append] at h; omega
      have hh10 : Hid (Below w.heap.size w w10) := Lib.hid (hh9.out.trans (hb10.mono hh9.out.size))
      have HZ := Lib.hid hx11
      have HW : Hid ((x8 ++ x9 ++ x10).size = 8) := Lib.hid (by rw [ByteArray.size_append, HY.out, hx12])
      have HO10 := Lib.hid (owns_below HO9.out hb10 (Nat.le_refl _))
      clear hx11 hx12 hb10
      simp only [Act.put, List.setIfInBounds_toArray, List.set_cons_zero, List.set_cons_succ]
      refine hK_.out _ _ hh10.out (fun hHeld_ => ?_)
      refine take_op 9 (some 57) (v := ?_) rfl rfl (by kernel_rfl) (by kernel_rfl) (by kernel_rfl) (fun _ _ _ h => h) (Or.inl ⟨by rfl, ?_⟩) (by assumption) ?_
      rotate_left
      · intro w_ hSw_; (try dsimp only at hSw_); go_simp; (try with_reducible rfl)
      try simp only [Act.put, List.setIfInBounds_toArray, List.set_cons_zero, List.set_cons_succ]
      clear q1
      have q1 : ¬ 9223372036854775807 < x8.size + x9.size + x10.size + y.size := by have h := HW.out; have h2 := hys.out; rw [ByteArray.size_append, ByteArray.size_append] at h; omega
      have q2 : ¬ 9223372036854775807 < x8.size + x9.size + x10.size + y.size + x8.size := by have h := HW.out; have h2 := hys.out; have h3 := HX9.out; rw [ByteArray.size_append, ByteArray.size_append] at h; omega
      refine take_op 17 (some 65) (v := ?_) rfl rfl (by kernel_rfl) (by kernel_rfl) (by kernel_rfl) (fun _ _ _ h => h) (Or.inl ⟨by rfl, ?_⟩) (by assumption) ?_
      rotate_left
      · intro w_ hSw_; (try dsimp only at hSw_); go_simp; (try with_reducible rfl)
      try simp only [Act.put, List.setIfInBounds_toArray, List.set_cons_zero, List.set_cons_succ]
      refine take_op 19 (some 67) (v := ?_) rfl rfl (by kernel_rfl) (by kernel_rfl) (by kernel_rfl) (fun _ _ _ h => h) (Or.inl ⟨by rfl, ?_⟩) (by assumption) ?_
      rotate_left
      · intro w_ hSw_; (try dsimp only at hSw_); go_simp; (try with_reducible rfl)
      try simp only [Act.put, List.setIfInBounds_toArray, List.set_cons_zero, List.set_cons_succ]
      clear q1 q2
      have hsec : x8 ++ x9 ++ x10 ++ y ++ x8 = secF num i k A := by rw [HX8.out, HX.out, HZ.out, HYY.out, HLO.out, HHI.out]; exact secF_ref _ _ _ _
      rw [hsec]
      refine go_op 20 rfl (by kernel_rfl) (fun K_ hK_ => ?_)
      go_simp
      have hu := (Blk.new w10 #[.string (secF num i k A)] 9).cell 0
      have HRA := Lib.hid (owns_below HO10.out ((Below.refl w10.heap.size w10).alloc (Nat.le_refl _) (.cells #[.string (secF num i k A)] 9)) (Nat.le_refl _))
      have hBA := hh10.out.alloc hh10.out.size (.cells #[.string (secF num i k A)] 9)
      refine hK_.out _ _ hBA (fun hHeld_ => ?_)
      refine go_op 21 rfl (by kernel_rfl) (fun K_ hK_ => ?_)
      generalize w10.alloc (.cells #[.string (secF num i k A)] 9) = w11 at hu HRA hBA
      refine step_app sl_str str_info rfl (some 69) rfl rfl rfl w.heap.size _ i _ rfl HRA.out ⟨w10.heap.size, 0, none⟩ 1 (.string (secF num i k A)) rfl hu rfl (by simp [maxLen]; omega) (by omega) hBA.size ?_
      intro g cap w3 hown hgrow hat hlt3
      have hbl := owns_block HRA.out
      have HB3 := Lib.hid (hBA.trans (below_grown hgrow hBA.size (fun k hk => by have := hbl k hk; omega)))
      have HO := Lib.hid hown
      clear hown hgrow hat hbl HRA hBA hu
      simp only [Act.put, List.setIfInBounds_toArray, List.set_cons_zero, List.set_cons_succ]
      refine hK_.out _ _ HB3.out (fun hHeld_ => ?_)
      refine go_op 22 rfl (by kernel_rfl) (fun K_ hK_ => ?_)
      go_simp
      refine hK_.out _ _ HB3.out (fun hHeld_ => ?_)
      refine wpAnyH_done (by kernel_rfl) ?_ _
      go_wp2_with fail
      refine ⟨⟨i + 1, by omega, by go_num, HB3.out, by rw [List.range_succ, List.map_append]; exact HO.out⟩, ?_⟩
      simp [intOf]; omega
    · have hik : i = k := by omega
      subst hik
      go_wp2_with fail
      go_ret2
      refine ⟨_, rfl, HB.out, ?_⟩
      rw [← HK.out]
      have := HR.out
      unfold secsF
      rw [← HK.out, ← HA.out, List.map_map]
      exact this
end Go.Proofs.YtcakellhellddaaGreatDoor
