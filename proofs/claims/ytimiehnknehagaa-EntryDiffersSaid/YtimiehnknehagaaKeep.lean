import Derived.Test.YtimiehnknehagaaProg
import Derived.WalkKit
import Derived.Lib.Hide
set_option linter.unusedSimpArgs false
set_option linter.unusedVariables false
namespace Go.Proofs.Ytimiehnknehagaa
open Go.RowKit
theorem tmod_bd (k n : Int) (h1 : 1 ≤ n) : -n < k.tmod n ∧ k.tmod n < n := by
  rcases Int.le_total 0 k with h | h
  · have := Int.tmod_nonneg n h
    have := Int.tmod_lt_of_pos k (show 0 < n by omega)
    omega
  · have e : k.tmod n = -((-k).tmod n) := by rw [Int.neg_tmod]; omega
    have := Int.tmod_nonneg n (show 0 ≤ -k by omega)
    have := Int.tmod_lt_of_pos (-k) (show 0 < n by omega)
    omega
theorem tmod_add_emod (k n : Int) : (k.tmod n + n) % n = k % n := by
  rw [Int.add_emod_right, Int.tmod_def, Int.sub_mul_emod_self_left]
theorem keepMod_any (k : Int) (n : Int) (hk : -9223372036854775808 ≤ k ∧ k ≤ 9223372036854775807) (h1 : 1 ≤ n) (h2 : n ≤ 4611686018427387904) (w : World) :
    Calls Try.prog 21 #[.int .i64 k, .int .i64 n] w fun e w' => e = .returned (.int .i64 (k % n)) ∧ w' = w := by
  have hb := tmod_bd k n h1
  have he := Lib.hid (tmod_add_emod k n)
  go_enter Try.func21, Try.ntmps21
  go_wp2
  go_ret
  exact ⟨by rw [← he.out]; rfl, rfl⟩
theorem keepMod_low (k : Int) (n : Int) (h1 : n < 1) (w : World) :
    Calls Try.prog 21 #[.int .i64 k, .int .i64 n] w fun e w' => e = .returned (.int .i64 0) ∧ w' = w := by
  go_enter Try.func21, Try.ntmps21
  go_wp2
  go_ret
  exact ⟨rfl, rfl⟩
end Go.Proofs.Ytimiehnknehagaa
