import Derived.Test.YtcakellhellddaaGreatDoorFrPlain
import Derived.Test.YtcakellhellddaaGreatDoorRegInv
import Derived.Test.YtcakellhellddaaGreatDoorTy
set_option linter.unusedSimpArgs false
set_option linter.unusedVariables false
namespace Go.Proofs.YtcakellhellddaaGreatDoor
open Go.RowKit
theorem lesL_one (n v : Nat) : (⟨(lesL n [v]).toArray⟩ : ByteArray) = le n v := by simp [lesL, le]
theorem frMake_bad (num : Nat) (s : ByteArray) (w : World) (h : num = 0 ∨ 60000 < s.size) :
    Calls Tryz.prog 63 #[.int .u32 num, .string s] w fun e w' => e = .returned (.tuple #[.slice none 0 0, .int .i64 (makeF num s).2]) ∧ w' = w := by
  by_cases h0 : num = 0
  · have hm : Hid ((makeF num s).2 = 1) := Lib.hid (by unfold makeF; rw [if_pos h0])
    rw [hm.out]
    subst h0
    go_enter Tryz.func63, Tryz.ntmps63
    go_wp2
    go_ret2
    exact ⟨rfl, rfl⟩
  · have h1 : 60000 < s.size := by rcases h with h | h; exact absurd h h0; exact h
    have hm : Hid ((makeF num s).2 = 2) := Lib.hid (by unfold makeF; rw [if_neg h0, if_pos h1])
    rw [hm.out]
    have hz : ((num : Int) == 0) = false := by simpa using (by omega : ¬ ((num : Int) = 0))
    clear h h0
    go_enter Tryz.func63, Tryz.ntmps63
    go_wp2
    go_ret2
    exact ⟨rfl, rfl⟩
/-- One number of four bytes, out of a new row. -/
theorem bytes4 (v : Nat) (hv : v < 4294967296) (w : World) :
    Calls Tryz.prog 73 #[.int .i64 4, .slice (some ⟨w.heap.size, 0, none⟩) 1 1] (w.alloc (.cells #[.int .u64 v] 107)) fun e w' => e = .returned (.string (le 4 v)) ∧ Below w.heap.size w w' := by
  refine (bytes_any 4 (.inr rfl) [v] (by simpa using hv) (by simp) (by simp) w.heap.size 1 _ ?_).mono ?_
  · intro j hj
    have : j = 0 := by simpa using hj
    subst this
    exact (Blk.new w #[.int .u64 v] 107).cell 0
  · rintro e w' ⟨rfl, hb⟩
    exact ⟨by rw [lesL_one], ((Below.refl _ _).alloc (Nat.le_refl _) _).trans (hb.mono (by simp))⟩
/-- Two texts, out of a new row. -/
theorem joined2 (a b : ByteArray) (hs : a.size + b.size ≤ 1000000) (w : World) :
    Calls Tryz.prog 72 #[.slice (some ⟨w.heap.size, 0, none⟩) 2 2] (w.alloc (.cells #[.string a, .string b] 9)) fun e w' => e = .returned (.string (catB [a, b])) ∧ Below w.heap.size w w' := by
  refine (joined_any w.heap.size 2 [a, b] _ ?_ (by simp) (by simp) (by simp) (by rw [catB_size]; simpa using hs)).mono ?_
  · intro j x hj
    rw [Nat.zero_add]
    rw [(Blk.new w #[.string a, .string b] 9).cell j]
    match j with
    | 0 => simp at hj; subst hj; rfl
    | 1 => simp at hj; subst hj; rfl
    | j + 2 => simp at hj
  · rintro e w' ⟨rfl, hb⟩
    exact ⟨rfl, ((Below.refl _ _).alloc (Nat.le_refl _) _).trans (hb.mono (by simp))⟩
theorem rep_one : ∀ n, Lib.repeatL [(0 : UInt8)] n = List.replicate n 0
  | 0 => rfl
  | n + 1 => by rw [Lib.repeatL, rep_one n, List.replicate_succ]; rfl
theorem rep_zero (k : Nat) (hk : k ≤ 100000) (w : World) : Calls Tryz.prog 68 #[.string ⟨#[0]⟩, .int .i64 k] w fun e w' => e = .returned (.string (zerosN k)) ∧ Below w.heap.size w w' := by
  have h := Tryz.strings_Repeat ⟨#[0]⟩ k w (by omega) (by show 1 * k ≤ _; omega)
  have e : (⟨(Lib.repeatL [(0 : UInt8)] k).toArray⟩ : ByteArray) = zerosN k := by rw [rep_one]; rfl
  have e2 : (⟨(Lib.repeatL (⟨#[0]⟩ : ByteArray).data.toList k).toArray⟩ : ByteArray) = zerosN k := e
  rw [e2] at h
  exact h
end Go.Proofs.YtcakellhellddaaGreatDoor
namespace Go.Proofs.YtcakellhellddaaGreatDoor
open Go.RowKit
theorem bytes_row1 (v : Nat) (hv : v < 4294967296) (b : Nat) (t : TypeId) (w : World) (h : Blk w b #[.int .u64 (v : Int)] t) :
    Calls Tryz.prog 73 #[.int .i64 4, .slice (some ⟨b, 0, none⟩) 1 1] w fun e w' => e = .returned (.string (le 4 v)) ∧ Below w.heap.size w w' := by
  refine (bytes_any 4 (.inr rfl) [v] (by simpa using hv) (by simp) (by simp) b 1 _ ?_).mono ?_
  · intro j hj
    have : j = 0 := by simpa using hj
    subst this
    exact h.cell 0
  · rintro e w' ⟨rfl, hb⟩
    exact ⟨by rw [lesL_one], hb⟩
theorem bytes_row2 (u v : Nat) (hu : u < 65536) (hv : v < 65536) (b : Nat) (t : TypeId) (w : World) (h : Blk w b #[.int .u64 (u : Int), .int .u64 (v : Int)] t) :
    Calls Tryz.prog 73 #[.int .i64 2, .slice (some ⟨b, 0, none⟩) 2 2] w fun e w' => e = .returned (.string ⟨(lesL 2 [u, v]).toArray⟩) ∧ Below w.heap.size w w' := by
  refine (bytes_any 2 (.inl rfl) [u, v] (by simp; omega) (by simp) (by simp) b 2 _ ?_).mono ?_
  · intro j hj
    match j with
    | 0 => exact h.cell 0
    | 1 => exact h.cell 1
    | j + 2 => exact absurd hj (by simp)
  · rintro e w' ⟨rfl, hb⟩
    exact ⟨rfl, hb⟩
theorem joined_row4 (x0 x1 x2 x3 : ByteArray) (hs : x0.size + x1.size + x2.size + x3.size ≤ 1000000) (b : Nat) (t : TypeId) (w : World) (h : Blk w b #[.string x0, .string x1, .string x2, .string x3] t) :
    Calls Tryz.prog 72 #[.slice (some ⟨b, 0, none⟩) 4 4] w fun e w' => e = .returned (.string (catB [x0, x1, x2, x3])) ∧ Below w.heap.size w w' := by
  refine (joined_any b 4 [x0, x1, x2, x3] _ ?_ h.lt (by simp) (by simp) (by rw [catB_size]; simp only [List.map, List.sum_cons, List.sum_nil]; omega)).mono ?_
  · intro j x hj
    rw [Nat.zero_add, h.cell j]
    match j with
    | 0 => simp at hj; subst hj; rfl
    | 1 => simp at hj; subst hj; rfl
    | 2 => simp at hj; subst hj; rfl
    | 3 => simp at hj; subst hj; rfl
    | j + 4 => simp at hj
  · rintro e w' ⟨rfl, hb⟩
    exact ⟨rfl, hb⟩
set_option maxRecDepth 100000 in
set_option maxHeartbeats 1000000 in
theorem frMake_any (num : Nat) (s : ByteArray) (w : World) (h0 : 0 < num) (hn : num < 4294967296) (hs : s.size ≤ 60000) :
    Calls Tryz.prog 63 #[.int .u32 num, .string s] w fun e w' => ∃ v, e = .returned (.tuple #[v, .int .i64 0]) ∧ Below w.heap.size w w' ∧ w'.ownsRow w.heap.size 9 1 v (sizeN s.size) ((secsF num s).map Value.string) := by
  have hz : ((num : Int) == 0) = false := by simpa using (by omega : ¬ ((num : Int) = 0))
  have hsz := Lib.hid hs
  go_enter Tryz.func63, Tryz.ntmps63
  go_wp2_with fail
  refine (bytes4 s.size (by omega) _).mono ?_
  rintro e w1 ⟨rfl, hb1⟩
  go_wp2_with fail
  refine (joined2 _ _ (by rw [le_size]; omega) _).mono ?_
  rintro e w2 ⟨rfl, hb2⟩
  have HB2 : Hid (Below w.heap.size w w2) := Lib.hid (hb1.trans (hb2.mono hb1.size))
  have hh : catB [le 4 s.size, s] = headF s := rfl
  rw [hh]
  clear hb1 hb2 hh
  go_wp2_with fail
  refine (sum_any (headF s) w2 (by rw [headF_size]; omega)).mono ?_
  rintro e w3 ⟨rfl, hw3⟩
  have hw3 := hw3.symm
  subst hw3
  have hc := (sumF (headF s).data.toList).isLt
  have ht : tn (sumF (headF s).data.toList) = ((sumF (headF s).data.toList).toNat : Int) := rfl
  rw [ht]
  obtain ⟨c, hcc⟩ : ∃ c, c = (sumF (headF s).data.toList).toNat := ⟨_, rfl⟩
  rw [← hcc] at hc ⊢
  have HCC := Lib.hid hcc
  clear ht hcc
  go_wp2_with fail
  refine (bytes4 c (by omega) _).mono ?_
  rintro e w4 ⟨rfl, hb4⟩
  go_wp2_with fail
  refine (joined2 _ _ (by rw [le_size, headF_size]; omega) _).mono ?_
  rintro e w5 ⟨rfl, hb5⟩
  have hB4 := HB2.out.trans (hb4.mono HB2.out.size)
  have HB5 : Hid (Below w.heap.size w w5) := Lib.hid (hB4.trans (hb5.mono hB4.size))
  have hh : catB [headF s, le 4 c] = bodyF s := by rw [HCC.out]; rfl
  rw [hh]
  clear hb4 hb5 hB4 HB2 hh hc
  go_wp2_with fail
  refine (frSize_any s.size _).mono ?_
  rintro e w6 ⟨rfl, hw6⟩
  have hw6 := hw6.symm
  subst hw6
  rw [sizeF_nat hs]
  have k1 := sizeN_pos s.size
  have k2 := sizeN_le hs
  have k3 := sizeN_room s.size
  have k4 := bodyF_size s
  obtain ⟨k, hk⟩ : ∃ k, k = sizeN s.size := ⟨_, rfl⟩
  rw [← hk] at k1 k2 k3 ⊢
  have HK := Lib.hid hk
  clear hk
  go_wp2_with fail
  have hk9 : ((k : Int) * 244 - ((s.size : Int) + 8)) = ((k * 244 - (s.size + 8) : Nat) : Int) := by omega
  rw [hk9]
  refine (rep_zero _ (by omega) _).mono ?_
  rintro e w7 ⟨rfl, hb7⟩
  go_wp2_with fail
  refine (joined2 _ _ (by rw [zerosN_size, bodyF_size]; omega) _).mono ?_
  rintro e w8 ⟨rfl, hb8⟩
  have hB7 := HB5.out.trans (hb7.mono HB5.out.size)
  have HB8 : Hid (Below w.heap.size w w8) := Lib.hid (hB7.trans (hb8.mono hB7.size))
  have hh : catB [bodyF s, zerosN (k * 244 - (s.size + 8))] = allF s := by unfold allF; rw [← HK.out, bodyF_size]
  rw [hh]
  clear hb7 hb8 hB7 HB5 hh hk9 k3 k4
  go_wp2_with fail
  have ha := Lib.hid (allF_size s)
  obtain ⟨A, hA⟩ : ∃ A, A = allF s := ⟨_, rfl⟩
  rw [← hA] at ha ⊢
  rw [← HK.out] at ha
  have HA := Lib.hid hA
  clear hA
  go_loopw [8, 46] (fun v x wr => ∃ i : Nat, i ≤ k ∧ x = .int .i64 i ∧ Below w.heap.size w wr ∧ wr.ownsRow w.heap.size 9 1 v i ((List.range i).map fun j => Value.string (secF num j k A))) (fun _ x _ => k - (intOf x).toNat)
  case atStart => exact ⟨0, Nat.zero_le _, rfl, HB8.out, rfl, .inl ⟨rfl, rfl⟩⟩
  case round =>
    clear HB8
    obtain ⟨i, hi, rfl, hB, hR⟩ := hrel
    have HB := Lib.hid hB
    have HR := Lib.hid hR
    clear hB hR
    by_cases hlt : i < k
    · go_wp2_with fail
      refine wp_region_held_drew (S := fun w' => Below w.heap.size w w') (by kernel_rfl) HB.out.drew (fun hHeld => ?_)
      obtain ⟨lo, hlo⟩ : ∃ lo, lo = i * 244 := ⟨_, rfl⟩
      obtain ⟨hi2, hhi⟩ : ∃ hi, hi = (i + 1) * 244 := ⟨_, rfl⟩
      have m1 : IntKind.i64.wrap ((i : Int) * 244) = (lo : Int) := by rw [IntKind.wrap_i64]; omega
      have m2 : IntKind.i64.wrap ((i : Int) + 1) = (i : Int) + 1 := by rw [IntKind.wrap_i64]; omega
      have m3 : IntKind.i64.wrap (((i : Int) + 1) * 244) = (hi2 : Int) := by rw [IntKind.wrap_i64]; omega
      have m4 : IntKind.u64.wrap (num : Int) = (num : Int) := by rw [IntKind.wrap_u64]; omega
      have m5 : IntKind.u64.wrap (i : Int) = (i : Int) := by rw [IntKind.wrap_u64]; omega
      have m6 : IntKind.u64.wrap (k : Int) = (k : Int) := by rw [IntKind.wrap_u64]; omega
      have p1 : (lo : Int) ≤ (hi2 : Int) := by omega
      have p2 : (hi2 : Int) ≤ (A.size : Int) := by rw [ha.out]; omega
      have HLO := Lib.hid hlo
      have HHI := Lib.hid hhi
      clear hlo hhi
      refine take_op 0 (some 49) (v := ?_) rfl rfl (by kernel_rfl) (by kernel_rfl) (by kernel_rfl) (fun _ _ _ h => h) (Or.inl ⟨by rfl, ?_⟩) (by assumption) ?_
      rotate_left
      · intro w_ hSw_; (try dsimp only at hSw_); go_simp; (try with_reducible rfl)
      try simp only [Act.put, List.setIfInBounds_toArray, List.set_cons_zero, List.set_cons_succ]
      refine take_op 1 (some 50) (v := ?_) rfl rfl (by kernel_rfl) (by kernel_rfl) (by kernel_rfl) (fun _ _ _ h => h) (Or.inl ⟨by rfl, ?_⟩) (by assumption) ?_
      rotate_left
      · intro w_ hSw_; (try dsimp only at hSw_); go_simp; (try with_reducible rfl)
      try simp only [Act.put, List.setIfInBounds_toArray, List.set_cons_zero, List.set_cons_succ]
      refine take_op 2 (some 51) (v := ?_) rfl rfl (by kernel_rfl) (by kernel_rfl) (by kernel_rfl) (fun _ _ _ h => h) (Or.inl ⟨by rfl, ?_⟩) (by assumption) ?_
      rotate_left
      · intro w_ hSw_; (try dsimp only at hSw_); go_simp; (try with_reducible rfl)
      try simp only [Act.put, List.setIfInBounds_toArray, List.set_cons_zero, List.set_cons_succ]
      refine take_op 5 (some 54) (v := ?_) rfl rfl (by kernel_rfl) (by kernel_rfl) (by kernel_rfl) (fun _ _ _ h => h) (Or.inl ⟨by rfl, ?_⟩) (by assumption) ?_
      rotate_left
      · intro w_ hSw_; (try dsimp only at hSw_); go_simp; (try with_reducible rfl)
      try simp only [Act.put, List.setIfInBounds_toArray, List.set_cons_zero, List.set_cons_succ]
      refine take_op 6 (some 55) (v := ?_) rfl rfl (by kernel_rfl) (by kernel_rfl) (by kernel_rfl) (fun _ _ _ h => h) (Or.inl ⟨by rfl, ?_⟩) (by assumption) ?_
      rotate_left
      · intro w_ hSw_; (try dsimp only at hSw_); go_simp; (try with_reducible rfl)
      try simp only [Act.put, List.setIfInBounds_toArray, List.set_cons_zero, List.set_cons_succ]
      refine take_op 7 (some 56) (v := ?_) rfl rfl (by kernel_rfl) (by kernel_rfl) (by kernel_rfl) (fun _ _ _ h => h) (Or.inl ⟨by rfl, ?_⟩) (by assumption) ?_
      rotate_left
      · intro w_ hSw_; (try dsimp only at hSw_); go_simp; (try with_reducible rfl)
      try simp only [Act.put, List.setIfInBounds_toArray, List.set_cons_zero, List.set_cons_succ]
      refine take_op 8 (some 57) (v := ?_) rfl rfl (by kernel_rfl) (by kernel_rfl) (by kernel_rfl) (fun _ _ _ h => h) (Or.inl ⟨by rfl, ?_⟩) (by assumption) ?_
      rotate_left
      · intro w_ hSw_; (try dsimp only at hSw_); go_simp; (try with_reducible rfl)
      try simp only [Act.put, List.setIfInBounds_toArray, List.set_cons_zero, List.set_cons_succ]
      refine take_op 11 (some 60) (v := ?_) rfl rfl (by kernel_rfl) (by kernel_rfl) (by kernel_rfl) (fun _ _ _ h => h) (Or.inl ⟨by rfl, ?_⟩) (by assumption) ?_
      rotate_left
      · intro w_ hSw_; (try dsimp only at hSw_); go_simp; (try with_reducible rfl)
      try simp only [Act.put, List.setIfInBounds_toArray, List.set_cons_zero, List.set_cons_succ]
      refine take_op 12 (some 61) (v := ?_) rfl rfl (by kernel_rfl) (by kernel_rfl) (by kernel_rfl) (fun _ _ _ h => h) (Or.inl ⟨by rfl, ?_⟩) (by assumption) ?_
      rotate_left
      · intro w_ hSw_; (try dsimp only at hSw_); go_simp; (try with_reducible rfl)
      try simp only [Act.put, List.setIfInBounds_toArray, List.set_cons_zero, List.set_cons_succ]
      refine take_op 13 (some 62) (v := ?_) rfl rfl (by kernel_rfl) (by kernel_rfl) (by kernel_rfl) (fun _ _ _ h => h) (Or.inl ⟨by rfl, ?_⟩) (by assumption) ?_
      rotate_left
      · intro w_ hSw_; (try dsimp only at hSw_); go_simp; (try with_reducible rfl)
      try simp only [Act.put, List.setIfInBounds_toArray, List.set_cons_zero, List.set_cons_succ]
      refine take_op 14 (some 63) (v := ?_) rfl rfl (by kernel_rfl) (by kernel_rfl) (by kernel_rfl) (fun _ _ _ h => h) (Or.inl ⟨by rfl, ?_⟩) (by assumption) ?_
      rotate_left
      · intro w_ hSw_; (try dsimp only at hSw_); go_simp; (try with_reducible rfl)
      try simp only [Act.put, List.setIfInBounds_toArray, List.set_cons_zero, List.set_cons_succ]
      refine take_op 15 (some 64) (v := ?_) rfl rfl (by kernel_rfl) (by kernel_rfl) (by kernel_rfl) (fun _ _ _ h => h) (Or.inl ⟨by rfl, ?_⟩) (by assumption) ?_
      rotate_left
      · intro w_ hSw_; (try dsimp only at hSw_); go_simp; (try with_reducible rfl)
      try simp only [Act.put, List.setIfInBounds_toArray, List.set_cons_zero, List.set_cons_succ]
      refine take_op 16 (some 65) (v := ?_) rfl rfl (by kernel_rfl) (by kernel_rfl) (by kernel_rfl) (fun _ _ _ h => h) (Or.inl ⟨by rfl, ?_⟩) (by assumption) ?_
      rotate_left
      · intro w_ hSw_; (try dsimp only at hSw_); go_simp; (try with_reducible rfl)
      try simp only [Act.put, List.setIfInBounds_toArray, List.set_cons_zero, List.set_cons_succ]
      refine take_op 17 (some 66) (v := ?_) rfl rfl (by kernel_rfl) (by kernel_rfl) (by kernel_rfl) (fun _ _ _ h => h) (Or.inl ⟨by rfl, ?_⟩) (by assumption) ?_
      rotate_left
      · intro w_ hSw_; (try dsimp only at hSw_); go_simp; (try with_reducible rfl)
      try simp only [Act.put, List.setIfInBounds_toArray, List.set_cons_zero, List.set_cons_succ]
      refine take_op 18 (some 67) (v := ?_) rfl rfl (by kernel_rfl) (by kernel_rfl) (by kernel_rfl) (fun _ _ _ h => h) (Or.inl ⟨by rfl, ?_⟩) (by assumption) ?_
      rotate_left
      · intro w_ hSw_; (try dsimp only at hSw_); go_simp; (try with_reducible rfl)
      try simp only [Act.put, List.setIfInBounds_toArray, List.set_cons_zero, List.set_cons_succ]
      refine take_op 19 (some 68) (v := ?_) rfl rfl (by kernel_rfl) (by kernel_rfl) (by kernel_rfl) (fun _ _ _ h => h) (Or.inl ⟨by rfl, ?_⟩) (by assumption) ?_
      rotate_left
      · intro w_ hSw_; (try dsimp only at hSw_); go_simp; (try with_reducible rfl)
      try simp only [Act.put, List.setIfInBounds_toArray, List.set_cons_zero, List.set_cons_succ]
      refine wpAnyH_tab (fun w' => Below w.heap.size w w' ∧ w'.ownsRow w.heap.size 9 1 u8 i ((List.range i).map fun j => Value.string (secF num j k A))) [3, 4, 9, 10, 20, 21, 22, 23] 3 [(3, 52, .row #[.int .u64 (num : Int)] 107), (4, 53, .val (.string (le 4 num))), (9, 58, .row #[.int .u64 (i : Int), .int .u64 (k : Int)] 107), (10, 59, .val (.string ⟨(lesL 2 [i, k]).toArray⟩)), (20, 69, .row #[.int .u64 (num : Int)] 107), (21, 70, .val (.string (le 4 num))), (22, 71, .row #[.string (le 4 num), .string ⟨(lesL 2 [i, k]).toArray⟩, .string (A.extract lo hi2), .string (le 4 num)] 9), (23, 72, .val (.string (secF num i k A)))] rfl rfl (by kernel_rfl) (fun _ h => h.1) (fun w1 w2 h hb => ⟨h.1.trans (hb.mono h.1.size), owns_below h.2 hb (Nat.le_refl _)⟩) ⟨HB.out.drew, owns_below HR.out ((Below.refl _ _).drew) (Nat.le_refl _)⟩ ?_ ?_
      · skip
        refine InvSteps.cons rfl (fun xs_ wv hSv hr_ A_ hA_ K_ hK_ => ?_) ?_
        · skip
          simp only [putAll, List.foldl, List.map, Act.put, List.setIfInBounds_toArray, List.set_cons_zero, List.set_cons_succ] at hA_
          subst hA_
          go_simp
          exact hK_.out _ _ _ rfl ⟨_, rfl, Blk.new _ _ _⟩ ((Below.refl _ _).alloc (Nat.le_refl _) _)
        refine InvSteps.cons rfl (fun xs_ wv hSv hr_ A_ hA_ K_ hK_ => ?_) ?_
        · skip
          obtain ⟨b3, e3, B3⟩ := hr_ 3 (by kernel_rfl)
          simp only [e3, putAll, List.foldl, List.map, Act.put, List.setIfInBounds_toArray, List.set_cons_zero, List.set_cons_succ] at hA_
          subst hA_
          go_simp
          refine (bytes_row1 num hn _ _ _ B3).mono ?_
          rintro e w1 ⟨rfl, hb1⟩
          exact hK_.out _ _ _ rfl rfl hb1
        refine InvSteps.cons rfl (fun xs_ wv hSv hr_ A_ hA_ K_ hK_ => ?_) ?_
        · skip
          simp only [putAll, List.foldl, List.map, Act.put, List.setIfInBounds_toArray, List.set_cons_zero, List.set_cons_succ] at hA_
          subst hA_
          go_simp
          exact hK_.out _ _ _ rfl ⟨_, rfl, Blk.new _ _ _⟩ ((Below.refl _ _).alloc (Nat.le_refl _) _)
        refine InvSteps.cons rfl (fun xs_ wv hSv hr_ A_ hA_ K_ hK_ => ?_) ?_
        · skip
          obtain ⟨b9, e9, B9⟩ := hr_ 9 (by kernel_rfl)
          simp only [e9, putAll, List.foldl, List.map, Act.put, List.setIfInBounds_toArray, List.set_cons_zero, List.set_cons_succ] at hA_
          subst hA_
          go_simp
          refine (bytes_row2 i k (by omega) (by omega) _ _ _ B9).mono ?_
          rintro e w1 ⟨rfl, hb1⟩
          exact hK_.out _ _ _ rfl rfl hb1
        refine InvSteps.cons rfl (fun xs_ wv hSv hr_ A_ hA_ K_ hK_ => ?_) ?_
        · skip
          simp only [putAll, List.foldl, List.map, Act.put, List.setIfInBounds_toArray, List.set_cons_zero, List.set_cons_succ] at hA_
          subst hA_
          go_simp
          exact hK_.out _ _ _ rfl ⟨_, rfl, Blk.new _ _ _⟩ ((Below.refl _ _).alloc (Nat.le_refl _) _)
        refine InvSteps.cons rfl (fun xs_ wv hSv hr_ A_ hA_ K_ hK_ => ?_) ?_
        · skip
          obtain ⟨b20, e20, B20⟩ := hr_ 20 (by kernel_rfl)
          simp only [e20, putAll, List.foldl, List.map, Act.put, List.setIfInBounds_toArray, List.set_cons_zero, List.set_cons_succ] at hA_
          subst hA_
          go_simp
          refine (bytes_row1 num hn _ _ _ B20).mono ?_
          rintro e w1 ⟨rfl, hb1⟩
          exact hK_.out _ _ _ rfl rfl hb1
        refine InvSteps.cons rfl (fun xs_ wv hSv hr_ A_ hA_ K_ hK_ => ?_) ?_
        · skip
          have e4 : xs_ 4 = _ := hr_ 4 (by kernel_rfl)
          have e10 : xs_ 10 = _ := hr_ 10 (by kernel_rfl)
          have e21 : xs_ 21 = _ := hr_ 21 (by kernel_rfl)
          simp only [e4, e10, e21, putAll, List.foldl, List.map, Act.put, List.setIfInBounds_toArray, List.set_cons_zero, List.set_cons_succ] at hA_
          subst hA_
          go_simp
          exact hK_.out _ _ _ rfl ⟨_, rfl, Blk.new _ _ _⟩ ((Below.refl _ _).alloc (Nat.le_refl _) _)
        refine InvSteps.cons rfl (fun xs_ wv hSv hr_ A_ hA_ K_ hK_ => ?_) ?_
        · skip
          obtain ⟨b22, e22, B22⟩ := hr_ 22 (by kernel_rfl)
          simp only [e22, putAll, List.foldl, List.map, Act.put, List.setIfInBounds_toArray, List.set_cons_zero, List.set_cons_succ] at hA_
          subst hA_
          go_simp
          refine (joined_row4 _ _ _ _ ?_ _ _ _ B22).mono ?_
          · rw [le_size, show (⟨(lesL 2 [i, k]).toArray⟩ : ByteArray).size = 4 from by show (lesL 2 [i, k]).toArray.size = 4; rw [List.size_toArray, lesL_len]; rfl, ByteArray.size_extract, ha.out]; omega
          rintro e w1 ⟨rfl, hb1⟩
          exact hK_.out _ _ _ rfl (by show Value.string _ = Value.string _; rw [HLO.out, HHI.out]; rfl) hb1
        exact InvSteps.nil
      · intro xs_ wv hSv hr_ A_ hA_
        obtain ⟨b3, e3, B3⟩ := hr_ 3
        have e4 : xs_ 4 = _ := hr_ 4
        obtain ⟨b9, e9, B9⟩ := hr_ 9
        have e10 : xs_ 10 = _ := hr_ 10
        obtain ⟨b20, e20, B20⟩ := hr_ 20
        have e21 : xs_ 21 = _ := hr_ 21
        obtain ⟨b22, e22, B22⟩ := hr_ 22
        have e23 : xs_ 23 = _ := hr_ 23
        simp only [e3, e4, e9, e10, e20, e21, e22, e23, putAll, List.foldl, List.map, Act.put, List.setIfInBounds_toArray, List.set_cons_zero, List.set_cons_succ] at hA_
        subst hA_
        clear e3 B3 e4 e9 B9 e10 e20 B20 e21 e22 B22 e23
        obtain ⟨hB9, hR9⟩ := hSv
        have HR9 := Lib.hid hR9
        clear hR9
        have hHeld := hB9
        refine go_op 24 rfl (by kernel_rfl) (fun K_ hK_ => ?_)
        go_simp
        have hu := (Blk.new wv #[.string (secF num i k A)] 9).cell 0
        have HRA := Lib.hid (owns_below HR9.out ((Below.refl wv.heap.size wv).alloc (Nat.le_refl _) (.cells #[.string (secF num i k A)] 9)) (Nat.le_refl _))
        have hBA := hB9.alloc hB9.size (.cells #[.string (secF num i k A)] 9)
        refine hK_.out _ _ hBA (fun hHeld_ => ?_)
        refine go_op 25 rfl (by kernel_rfl) (fun K_ hK_ => ?_)
        generalize wv.alloc (.cells #[.string (secF num i k A)] 9) = w10 at hu HRA hBA
        refine step_app sl_str str_info rfl (some 74) rfl rfl rfl w.heap.size u8 i _ rfl HRA.out ⟨wv.heap.size, 0, none⟩ 1 (.string (secF num i k A)) rfl hu rfl (by simp [maxLen]; omega) (by omega) hBA.size ?_
        intro g cap w3 hown hgrow hat hlt3
        have hbl := owns_block HRA.out
        have HB3 := Lib.hid (hBA.trans (below_grown hgrow hBA.size (fun k hk => by have := hbl k hk; omega)))
        have HO := Lib.hid hown
        clear hown hgrow hat hbl HRA hBA hu
        simp only [Act.put, List.setIfInBounds_toArray, List.set_cons_zero, List.set_cons_succ]
        refine hK_.out _ _ HB3.out (fun hHeld_ => ?_)
        refine go_op 26 rfl (by kernel_rfl) (fun K_ hK_ => ?_)
        go_simp
        refine hK_.out _ _ HB3.out (fun hHeld_ => ?_)
        refine wpAnyH_done (by kernel_rfl) ?_ _
        go_wp2_with fail
        go_roundw
        case rel => exact ⟨i + 1, by omega, by go_num, HB3.out, by rw [List.range_succ, List.map_append]; exact HO.out⟩
        case measure => simp [intOf]; omega
    · have hik : i = k := by omega
      subst hik
      go_wp2_with fail
      go_ret2
      refine ⟨_, rfl, HB.out, ?_⟩
      rw [← HK.out]
      have := HR.out
      unfold secsF
      rw [← HK.out, ← HA.out, List.map_map]
      exact this
end Go.Proofs.YtcakellhellddaaGreatDoor
