import Derived.Test.YtnplcjcbojjecaaDoorProg
import Derived.Test.YtnplcjcbojjecaaDoorCrcPlain
import Derived.WalkKit
import Derived.Outline
import Derived.LoopTactic
import Derived.Laws.Shifts
import Derived.KernelRfl
import Derived.WalkLawsBesides
import Derived.Lib.Hide
set_option linter.unusedSimpArgs false
set_option linter.unusedVariables false
namespace Go.Proofs.YtnplcjcbojjecaaDoor
open Go.RowKit
attribute [local go_sem] xor_tn xor_nat xor_poly and_one not_tn half_tn
set_option maxHeartbeats 400000 in
theorem again_any (c : W32) (s : ByteArray) (w : World) (hs : s.size ≤ 140737488351232) :
    Calls Tryd.prog 67 #[.int .u32 (tn c), .string s] w fun e w' => e = .returned (.int .u32 (tn (againF c s.data.toList))) ∧ w' = w := by
  go_enter Tryd.func67, Tryd.ntmps67
  go_wp2
  go_loop [5, 12] (fun r i => ∃ k : Nat, k ≤ s.size ∧ i = .int .i64 k ∧ r = .int .u32 (tn (runB (~~~c) (s.data.toList.take k)))) (fun _ i => s.size - (intOf i).toNat)
  case atStart => exact ⟨0, Nat.zero_le _, rfl, rfl⟩
  case round =>
    obtain ⟨k, hk, rfl, rfl⟩ := hrel
    by_cases hlt : k < s.size
    · have hb : s[k].toNat < 256 := s[k].toNat_lt
      obtain ⟨r0, hr0⟩ : ∃ r : W32, runB (~~~c) (s.data.toList.take k) = r := ⟨_, rfl⟩
      rw [hr0]
      have HR := Lib.hid hr0; clear hr0
      go_wp2
      go_loop [5, 21] (fun r i => ∃ j : Nat, j ≤ 8 ∧ i = .int .i64 j ∧ r = .int .u32 (tn (stpN j (r0 ^^^ BitVec.ofNat 32 s[k].toNat)))) (fun _ i => 8 - (intOf i).toNat)
      case atStart => exact ⟨0, by omega, rfl, rfl⟩
      case round =>
        obtain ⟨j, hj, rfl, rfl⟩ := hrel
        by_cases hj8 : j < 8
        · obtain ⟨r1, hr1⟩ : ∃ r : W32, stpN j (r0 ^^^ BitVec.ofNat 32 s[k].toNat) = r := ⟨_, rfl⟩
          have HS : stpN (j+1) (r0 ^^^ BitVec.ofNat 32 s[k].toNat) = stp r1 := by rw [← hr1]; rfl
          have HS := Lib.hid HS
          rw [hr1]; clear hr1
          by_cases ho : r1 &&& 1#32 = 1#32
          · have h1 := tn_eq_one _ ho
            have HO := Lib.hid ho; clear ho
            go_wp2
            go_round
            case rel => exact ⟨j+1, by omega, by go_num, by rw [HS.out, stp_odd HO.out]⟩
            case measure => simp [intOf]; omega
          · have h1 := tn_ne_one _ ho
            have HO := Lib.hid ho; clear ho
            go_wp2
            go_round
            case rel => exact ⟨j+1, by omega, by go_num, by rw [HS.out, stp_even HO.out]⟩
            case measure => simp [intOf]; omega
        · have hj : j = 8 := by omega
          subst hj
          have HT := Lib.hid (take_snoc s k hlt)
          go_wp2
          go_round
          case rel => exact ⟨k+1, by omega, by go_num, by rw [HT.out]; unfold runB; rw [List.foldl_append]; have h := HR.out; unfold runB at h; rw [h]; rfl⟩
          case measure => simp [intOf]; omega
    · have hk' : k = s.size := by omega
      subst hk'
      go_wp2
      go_ret
      exact ⟨by rw [List.take_of_length_le (by simp)]; rfl, rfl⟩
end Go.Proofs.YtnplcjcbojjecaaDoor
