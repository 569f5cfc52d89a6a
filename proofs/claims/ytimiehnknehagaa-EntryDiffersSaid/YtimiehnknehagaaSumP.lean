import Derived.Test.YtimiehnknehagaaToldP
set_option linter.unusedSimpArgs false
set_option linter.unusedVariables false
namespace Go.Proofs.Ytimiehnknehagaa
open Go.RowKit
/-! Sums and differences that may go beyond, as the program tells by signs. -/
def in64 (n : Int) : Prop := -9223372036854775808 ≤ n ∧ n ≤ 9223372036854775807
instance (n : Int) : Decidable (in64 n) := by unfold in64; infer_instance
theorem in64_wrap (n : Int) : in64 (Go.RowKit.wrap64 n) := by unfold in64 Go.RowKit.wrap64; omega
theorem wrap_in64 {n : Int} (h : in64 n) : Go.RowKit.wrap64 n = n := by unfold in64 at h; unfold Go.RowKit.wrap64; omega
theorem toInt_wrap (v : BitVec 64) : IntKind.i64.wrap (v.toNat : Int) = v.toInt := by
  rw [IntKind.wrap_i64, BitVec.toInt_eq_toNat_cond]
  have := v.isLt
  split <;> omega
theorem ofInt_neg {n : Int} (h : in64 n) : (BitVec.ofInt 64 n).msb = decide (n < 0) := by
  rw [BitVec.msb_eq_toInt, BitVec.toInt_ofInt]
  unfold in64 at h
  have : n.bmod (2 ^ 64) = n := Int.bmod_eq_of_le (by omega) (by omega)
  rw [this]
theorem bits_neg (op : BinOp) (f : BitVec 64 → BitVec 64 → BitVec 64) (hf : ∀ x y, bits op .i64 x y = IntKind.i64.wrap ((f (BitVec.ofInt 64 x) (BitVec.ofInt 64 y)).toNat : Int)) (x y : Int) :
    decide (bits op .i64 x y < 0) = (f (BitVec.ofInt 64 x) (BitVec.ofInt 64 y)).msb := by
  rw [hf, toInt_wrap, BitVec.msb_eq_toInt]
theorem bits_in64 (op : BinOp) (f : BitVec 64 → BitVec 64 → BitVec 64) (hf : ∀ x y, bits op .i64 x y = IntKind.i64.wrap ((f (BitVec.ofInt 64 x) (BitVec.ofInt 64 y)).toNat : Int)) (x y : Int) : in64 (bits op .i64 x y) := by
  rw [hf, IntKind.wrap_i64]; unfold in64; omega
theorem and_neg {x y : Int} (hx : in64 x) (hy : in64 y) : decide (bits .and .i64 x y < 0) = (decide (x < 0) && decide (y < 0)) := by
  rw [bits_neg .and (· &&& ·) (fun _ _ => rfl), BitVec.msb_and, ofInt_neg hx, ofInt_neg hy]
theorem xor_neg {x y : Int} (hx : in64 x) (hy : in64 y) : decide (bits .xor .i64 x y < 0) = (decide (x < 0) ^^ decide (y < 0)) := by
  rw [bits_neg .xor (· ^^^ ·) (fun _ _ => rfl), BitVec.msb_xor, ofInt_neg hx, ofInt_neg hy]
theorem and_xor_sign {a b c d : Int} (ha : in64 a) (hb : in64 b) (hc : in64 c) (hd : in64 d) :
    decide (0 ≤ bits .and .i64 (bits .xor .i64 a b) (bits .xor .i64 c d)) = !((decide (a < 0) ^^ decide (b < 0)) && (decide (c < 0) ^^ decide (d < 0))) := by
  have h := and_neg (bits_in64 .xor (· ^^^ ·) (fun _ _ => rfl) a b) (bits_in64 .xor (· ^^^ ·) (fun _ _ => rfl) c d)
  rw [xor_neg ha hb, xor_neg hc hd] at h
  rw [← h]
  generalize bits .and .i64 (bits .xor .i64 a b) (bits .xor .i64 c d) = r
  by_cases hr : r < 0
  · simp [hr]
  · simp [hr]; omega
theorem sum_sign {a b : Int} (ha : in64 a) (hb : in64 b) : decide (0 ≤ bits .and .i64 (bits .xor .i64 a (Go.RowKit.wrap64 (a + b))) (bits .xor .i64 b (Go.RowKit.wrap64 (a + b)))) = decide (in64 (a + b)) := by
  rw [and_xor_sign ha (in64_wrap _) hb (in64_wrap _)]
  unfold in64 at *
  unfold Go.RowKit.wrap64
  by_cases h1 : a < 0 <;> by_cases h2 : b < 0 <;> by_cases h3 : (a + b + 9223372036854775808) % 18446744073709551616 - 9223372036854775808 < 0 <;> by_cases hP : (-9223372036854775808 ≤ a + b ∧ a + b ≤ 9223372036854775807) <;> first | omega | simp [h1, h2, h3, hP]
theorem less_sign {a b : Int} (ha : in64 a) (hb : in64 b) : decide (0 ≤ bits .and .i64 (bits .xor .i64 a b) (bits .xor .i64 a (Go.RowKit.wrap64 (a - b)))) = decide (in64 (a - b)) := by
  rw [and_xor_sign ha hb ha (in64_wrap _)]
  unfold in64 at *
  unfold Go.RowKit.wrap64
  by_cases h1 : a < 0 <;> by_cases h2 : b < 0 <;> by_cases h3 : (a - b + 9223372036854775808) % 18446744073709551616 - 9223372036854775808 < 0 <;> by_cases hP : (-9223372036854775808 ≤ a - b ∧ a - b ≤ 9223372036854775807) <;> first | omega | simp [h1, h2, h3, hP]
theorem sum_any (a b : Int) (ha : in64 a) (hb : in64 b) (w : World) :
    Calls Try.prog 31 #[.int .i64 a, .int .i64 b] w fun e w' => e = .returned (.tuple #[.int .i64 (Go.RowKit.wrap64 (a + b)), .bool (decide (in64 (a + b)))]) ∧ w' = w := by
  rw [← sum_sign ha hb]
  go_enter Try.func31, Try.ntmps31
  go_wp2
  go_ret2
  exact ⟨rfl, rfl⟩
theorem less_any (a b : Int) (ha : in64 a) (hb : in64 b) (w : World) :
    Calls Try.prog 23 #[.int .i64 a, .int .i64 b] w fun e w' => e = .returned (.tuple #[.int .i64 (Go.RowKit.wrap64 (a - b)), .bool (decide (in64 (a - b)))]) ∧ w' = w := by
  rw [← less_sign ha hb]
  go_enter Try.func23, Try.ntmps23
  go_wp2
  go_ret2
  exact ⟨rfl, rfl⟩
end Go.Proofs.Ytimiehnknehagaa
