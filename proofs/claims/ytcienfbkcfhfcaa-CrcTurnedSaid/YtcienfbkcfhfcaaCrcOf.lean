import Derived.Test.YtcienfbkcfhfcaaCrcAgain
import Derived.Laws.Rows
set_option linter.unusedSimpArgs false
set_option linter.unusedVariables false
namespace Go.Proofs.Ytcienfbkcfhfcaa
open Go.RowKit
theorem shr_tn (a : W32) (n : Nat) : tn a / (2 ^ n : Int) = tn (a >>> n) := by
  unfold tn; rw [BitVec.toNat_ushiftRight, Nat.shiftRight_eq_div_pow]; simp
attribute [local go_sem] xor_tn xor_nat xor_poly and_one not_tn half_tn shr_tn
/-- A matrix as the row of its words. -/
def mrowL (m : List W32) : List Value := m.map fun x => Value.int .u32 (tn x)
def mrow (m : List W32) : Array Value := (mrowL m).toArray
theorem mrow_size (m : List W32) : (mrow m).size = m.length := by simp [mrow, mrowL]
theorem mrow_get (m : List W32) (i : Nat) (h : i < m.length) : (mrow m)[i]? = some (.int .u32 (tn (mAt m i))) := by
  simp [mrow, mrowL, mAt, h]
set_option maxHeartbeats 400000 in
theorem of_any (m : List W32) (hm : m.length = 32) (x : W32) (w : World) :
    Calls Try.prog 55 #[.agg (mrow m), .int .u32 (tn x)] w fun e w' => e = .returned (.int .u32 (tn (ofF m x))) ∧ w' = w.alloc (.cells (mrow m) 93 (0,0)) := by
  have HM := Lib.hid hm; clear hm
  go_enter Try.func55, Try.ntmps55
  go_wp2
  go_loop [5, 7] (fun r i => ∃ j : Nat, j ≤ 32 ∧ i = .int .i64 j ∧ r = .int .u32 (tn (ofN m x j))) (fun _ i => 32 - (intOf i).toNat)
  case atStart => exact ⟨0, by omega, rfl, rfl⟩
  case round =>
    obtain ⟨j, hj, rfl, rfl⟩ := hrel
    by_cases hlt : j < 32
    · have hg := mrow_get m j (by rw [HM.out]; exact hlt)
      obtain ⟨r1, hr1⟩ : ∃ r : W32, ofN m x j = r := ⟨_, rfl⟩
      by_cases ho : (x >>> j) &&& 1#32 = 1#32
      · have h1 := tn_eq_one _ ho
        have HS := Lib.hid (ofN_one (m := m) ho); rw [hr1] at HS
        rw [hr1]; clear ho hr1
        go_wp2
        go_round
        case rel => exact ⟨j+1, by omega, by go_num, by rw [HS.out]⟩
        case measure => simp [intOf]; omega
      · have h1 := tn_ne_one _ ho
        have HS := Lib.hid (ofN_nil (m := m) ho); rw [hr1] at HS
        rw [hr1]; clear ho hr1
        go_wp2
        go_round
        case rel => exact ⟨j+1, by omega, by go_num, by rw [HS.out]⟩
        case measure => simp [intOf]; omega
    · have hj : j = 32 := by omega
      subst hj
      go_wp2
      go_ret
      exact ⟨rfl, rfl⟩

end Go.Proofs.Ytcienfbkcfhfcaa
