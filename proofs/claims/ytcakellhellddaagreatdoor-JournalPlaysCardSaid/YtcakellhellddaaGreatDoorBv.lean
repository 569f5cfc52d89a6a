import Derived.WalkKit
import Derived.Laws.BitsAllLaws
set_option linter.unusedSimpArgs false
set_option linter.unusedVariables false
namespace Go.Proofs.YtcakellhellddaaGreatDoor
open Go.RowKit
abbrev W32 := BitVec 32
/-- A word as Go's number. -/
def tn (x : W32) : Int := (x.toNat : Int)
def poly : W32 := 0xedb88320#32
theorem tn_lt (x : W32) : 0 ≤ tn x ∧ tn x < 4294967296 := by unfold tn; have := x.isLt; omega
theorem tn_inj {a b : W32} (h : tn a = tn b) : a = b := by
  unfold tn at h; exact BitVec.eq_of_toNat_eq (by omega)
theorem ofInt_tn (x : W32) : BitVec.ofInt 32 (tn x) = x := by
  unfold tn; rw [BitVec.ofInt_natCast]; simp
theorem of_int (n : Int) (h0 : 0 ≤ n) (h1 : n < 4294967296) : n = tn (BitVec.ofInt 32 n) := by
  unfold tn
  obtain ⟨a, rfl⟩ := Int.eq_ofNat_of_zero_le h0
  rw [BitVec.ofInt_natCast, BitVec.toNat_ofNat]
  omega
theorem wrap_toNat (x : W32) : IntKind.u32.wrap (x.toNat : Int) = tn x := by
  rw [IntKind.wrap_u32]; unfold tn; have := x.isLt; omega
theorem xor_tn (a b : W32) : bits .xor .u32 (tn a) (tn b) = tn (a ^^^ b) := by
  show IntKind.u32.wrap ((BitVec.ofInt 32 (tn a) ^^^ BitVec.ofInt 32 (tn b)).toNat : Int) = _
  rw [ofInt_tn, ofInt_tn, wrap_toNat]
theorem and_tn (a b : W32) : bits .and .u32 (tn a) (tn b) = tn (a &&& b) := by
  show IntKind.u32.wrap ((BitVec.ofInt 32 (tn a) &&& BitVec.ofInt 32 (tn b)).toNat : Int) = _
  rw [ofInt_tn, ofInt_tn, wrap_toNat]
theorem xor_nat (a : W32) (n : Nat) : bits .xor .u32 (tn a) (n : Int) = tn (a ^^^ BitVec.ofNat 32 n) := by
  show IntKind.u32.wrap ((BitVec.ofInt 32 (tn a) ^^^ BitVec.ofInt 32 (n : Int)).toNat : Int) = _
  rw [ofInt_tn, BitVec.ofInt_natCast, wrap_toNat]
theorem xor_poly (a : W32) : bits .xor .u32 (tn a) 3988292384 = tn (a ^^^ poly) := xor_nat a 3988292384
theorem and_one (a : W32) : bits .and .u32 (tn a) 1 = tn (a &&& 1#32) := by
  have := and_tn a 1#32; exact this
theorem not_tn (a : W32) : bits .xor .u32 IntKind.u32.max (tn a) = tn (~~~a) := by
  have h : IntKind.u32.max = tn (BitVec.allOnes 32) := by decide
  rw [h, xor_tn, BitVec.allOnes_xor]
theorem not_tn' (a : W32) : bits .xor .u32 (if IntKind.u32.signed = true then -1 else IntKind.u32.max) (tn a) = tn (~~~a) := not_tn a
theorem half_tn (a : W32) : tn a / (2 : Int) = tn (a >>> 1) := by
  unfold tn; rw [BitVec.toNat_ushiftRight]; simp [Nat.shiftRight_eq_div_pow]
theorem one_tn : (1 : Int) = tn 1#32 := rfl
theorem tn_eq_one (a : W32) (h : a = 1#32) : (tn a == 1) = true := by subst h; rfl
theorem tn_ne_one (a : W32) (h : a ≠ 1#32) : (tn a == 1) = false := by
  simp; intro e; exact h (tn_inj e)
end Go.Proofs.YtcakellhellddaaGreatDoor
