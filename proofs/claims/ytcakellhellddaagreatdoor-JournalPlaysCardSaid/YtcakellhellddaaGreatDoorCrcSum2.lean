import Derived.Test.YtcakellhellddaaGreatDoorCrcPlain
set_option linter.unusedSimpArgs false
set_option linter.unusedVariables false
namespace Go.Proofs.YtcakellhellddaaGreatDoor
open Go.RowKit
theorem shr_tn (a : W32) (n : Nat) : tn a / (2 ^ n : Int) = tn (a >>> n) := by
  unfold tn; rw [BitVec.toNat_ushiftRight, Nat.shiftRight_eq_div_pow]; simp
attribute [local go_sem] xor_tn xor_nat xor_poly and_one not_tn half_tn shr_tn
/-- A matrix as the row of its words. -/
def mrowL (m : List W32) : List Value := m.map fun x => Value.int .u32 (tn x)
def mrow (m : List W32) : Array Value := (mrowL m).toArray
theorem mod_tn (x : W32) : tn x % 4294967296 = tn x := by have := tn_lt x; omega
attribute [local go_sem] mod_tn xor_tn xor_poly and_one not_tn half_tn shr_tn
theorem bne_tn {a b : W32} (h : a ≠ b) : (tn a != tn b) = true := by
  rw [bne_iff_ne]; intro e; exact h (tn_inj e)
theorem nbne_tn {a b : W32} (h : a = b) : (tn a != tn b) = false := by subst h; simp
theorem byte_tn (b : UInt8) : ((b.toNat : Nat) : Int) = tn (BitVec.ofNat 32 b.toNat) := by
  have h := b.toNat_lt
  unfold tn; rw [BitVec.toNat_ofNat]; omega
set_option maxHeartbeats 400000 in
theorem refGo_any (c : W32) (s : ByteArray) (w : World) (hs : s.size ≤ 140737488351232) :
    Calls Tryz.prog 79 #[.int .u32 (tn c), .string s] w fun e w' => e = .returned (.int .u32 (tn (runB c s.data.toList))) ∧ w' = w := by
  go_enter Tryz.func79, Tryz.ntmps79
  go_wp2
  go_loop [0, 5] (fun r i => ∃ k : Nat, k ≤ s.size ∧ i = .int .i64 k ∧ r = .int .u32 (tn (runB c (s.data.toList.take k)))) (fun _ i => s.size - (intOf i).toNat)
  case atStart => exact ⟨0, Nat.zero_le _, rfl, rfl⟩
  case round =>
    obtain ⟨k, hk, rfl, rfl⟩ := hrel
    by_cases hlt : k < s.size
    · obtain ⟨r0, hr0⟩ : ∃ r : W32, runB c (s.data.toList.take k) = r := ⟨_, rfl⟩
      rw [hr0]
      have HR := Lib.hid hr0; clear hr0
      go_wp2
      go_loop [0, 6] (fun r i => ∃ j : Nat, j ≤ 8 ∧ i = .int .i64 j ∧ r = .int .u32 (tn (goK r0 (BitVec.ofNat 32 s[k].toNat) j))) (fun _ i => 8 - (intOf i).toNat)
      case atStart => exact ⟨0, by omega, rfl, rfl⟩
      case round =>
        obtain ⟨j, hj, rfl, rfl⟩ := hrel
        by_cases hj8 : j < 8
        · have hbt := byte_tn s[k]
          obtain ⟨r1, hr1⟩ : ∃ r : W32, goK r0 (BitVec.ofNat 32 s[k].toNat) j = r := ⟨_, rfl⟩
          by_cases ho : r1 &&& 1#32 = (BitVec.ofNat 32 s[k].toNat >>> j) &&& 1#32
          · have HS := Lib.hid (goK_eq (c := r0) (v := BitVec.ofNat 32 s[k].toNat) (k := j) (by rw [hr1]; exact ho))
            rw [hr1] at HS ⊢; clear hr1
            have h1 := nbne_tn ho
            clear ho
            obtain ⟨v, hv⟩ : ∃ v : W32, BitVec.ofNat 32 s[k].toNat = v := ⟨_, rfl⟩
            rw [hv] at hbt h1 HS ⊢; clear hv
            go_wp2
            go_round
            case rel => exact ⟨j+1, by omega, by go_num, by rw [HS.out]⟩
            case measure => simp [intOf]; omega
          · have HS := Lib.hid (goK_ne (c := r0) (v := BitVec.ofNat 32 s[k].toNat) (k := j) (by rw [hr1]; exact ho))
            rw [hr1] at HS ⊢; clear hr1
            have h1 := bne_tn ho
            clear ho
            obtain ⟨v, hv⟩ : ∃ v : W32, BitVec.ofNat 32 s[k].toNat = v := ⟨_, rfl⟩
            rw [hv] at hbt h1 HS ⊢; clear hv
            go_wp2
            go_round
            case rel => exact ⟨j+1, by omega, by go_num, by rw [HS.out]⟩
            case measure => simp [intOf]; omega
        · have hj : j = 8 := by omega
          have HJ := Lib.hid hj
          have HT := Lib.hid (take_snoc s k hlt)
          clear hj
          go_wp2
          go_round
          case rel => exact ⟨k+1, by omega, by go_num, by rw [HT.out, runB_app, HR.out, HJ.out, goK_byte]; rfl⟩
          case measure => simp [intOf]; omega
    · have hk' : k = s.size := by omega
      subst hk'
      go_wp2
      go_ret
      exact ⟨by rw [List.take_of_length_le (by simp)]; rfl, rfl⟩
attribute [local go_sem] not_tn not_tn'
def sumF (l : List UInt8) : W32 := againF 0#32 l
theorem again_num (n : Int) (c : W32) (hn : n = tn c) (s : ByteArray) (w : World) (hs : s.size ≤ 140737488351232) :
    Calls Tryz.prog 90 #[.int .u32 n, .string s] w fun e w' => e = .returned (.int .u32 (tn (againF c s.data.toList))) ∧ w' = w := by
  subst hn; exact again_any c s w hs
theorem go_num' (n : Int) (c : W32) (hn : n = tn c) (s : ByteArray) (w : World) (hs : s.size ≤ 140737488351232) :
    Calls Tryz.prog 79 #[.int .u32 n, .string s] w fun e w' => e = .returned (.int .u32 (tn (runB c s.data.toList))) ∧ w' = w := by
  subst hn; exact refGo_any c s w hs
theorem ones_tn : (4294967295 : Int) = tn (~~~ 0#32) := by
  have h : (~~~ 0#32 : W32).toNat = 4294967295 := by decide
  unfold tn; rw [h]; rfl
theorem sum_any (s : ByteArray) (w : World) (hs : s.size ≤ 140737488351232) :
    Calls Tryz.prog 74 #[.string s] w fun e w' => e = .returned (.int .u32 (tn (sumF s.data.toList))) ∧ w' = w := by
  go_enter Tryz.func74, Tryz.ntmps74
  go_wp2_with (go_at_call 90; refine (again_num 0 0#32 rfl s _ hs).mono ?_; rintro e w' ⟨rfl, rfl⟩)
  go_ret
  exact ⟨rfl, rfl⟩
theorem refSum_any (s : ByteArray) (w : World) (hs : s.size ≤ 140737488351232) :
    Calls Tryz.prog 67 #[.string s] w fun e w' => e = .returned (.int .u32 (tn (sumF s.data.toList))) ∧ w' = w := by
  go_enter Tryz.func67, Tryz.ntmps67
  go_wp2_with fail
  have h2 := go_num' 4294967295 (~~~ 0#32) ones_tn s w hs
  refine h2.mono ?_
  clear h2
  rintro e w' ⟨rfl, rfl⟩
  go_wp2
  go_ret
  exact ⟨rfl, rfl⟩
end Go.Proofs.YtcakellhellddaaGreatDoor
