import Derived.Test.YtnplcjcbojjecaaDoorFrLaw
set_option linter.unusedSimpArgs false
set_option linter.unusedVariables false
namespace Go.Proofs.YtnplcjcbojjecaaDoor
theorem leL_two (v : Nat) : leL 2 v = [UInt8.ofNat (v % 256), UInt8.ofNat (v / 256 % 256)] := by
  rw [leL_cons, leL_cons]
  simp [leL]
/-- A sector's own place, and how many there are. -/
theorem sec_bytes (num i k : Nat) (A : ByteArray) (hA : A.size = k * 244) (hi : i < k) (hk : k < 65536) :
    ∃ b4 b5 b6 b7 : UInt8, (secF num i k A).data.toList[4]? = some b4 ∧ (secF num i k A).data.toList[5]? = some b5 ∧ (secF num i k A).data.toList[6]? = some b6 ∧ (secF num i k A).data.toList[7]? = some b7 ∧
      b4.toNat + 256 * b5.toNat = i ∧ b6.toNat + 256 * b7.toNat = k := by
  have h := (secF_mid num i k A hA hi).1
  rw [extract_list, leL_two, leL_two] at h
  have hx : ∀ j, j < 4 → (secF num i k A).data.toList[4 + j]? = [UInt8.ofNat (i % 256), UInt8.ofNat (i / 256 % 256), UInt8.ofNat (k % 256), UInt8.ofNat (k / 256 % 256)][j]? := fun j hj => by
    have h2 := congrArg (·[j]?) h
    simp only [List.cons_append, List.nil_append] at h2
    rw [← h2, List.getElem?_take_of_lt (by omega), List.getElem?_drop]
  refine ⟨UInt8.ofNat (i % 256), UInt8.ofNat (i / 256 % 256), UInt8.ofNat (k % 256), UInt8.ofNat (k / 256 % 256), hx 0 (by omega), hx 1 (by omega), hx 2 (by omega), hx 3 (by omega), ?_, ?_⟩
  · rw [UInt8.toNat_ofNat', UInt8.toNat_ofNat']; omega
  · rw [UInt8.toNat_ofNat', UInt8.toNat_ofNat']; omega
theorem sizeN_mono {a b : Nat} (h : a ≤ b) : sizeN a ≤ sizeN b := by unfold sizeN; omega
end Go.Proofs.YtnplcjcbojjecaaDoor
