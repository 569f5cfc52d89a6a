import Derived.Test.YtcakellhellddaaGreatDoorRpBytes
import Derived.Test.YtcakellhellddaaGreatDoorCrcSum2
set_option linter.unusedSimpArgs false
set_option linter.unusedVariables false
namespace Go.Proofs.YtcakellhellddaaGreatDoor
/-! A record's sectors, as data. -/
def le (k v : Nat) : ByteArray := ⟨(leL k v).toArray⟩
theorem le_size (k v : Nat) : (le k v).size = k := by
  show (leL k v).toArray.size = k
  rw [List.size_toArray, leL_len]
def zerosN (k : Nat) : ByteArray := ⟨(List.replicate k 0).toArray⟩
theorem zerosN_size (k : Nat) : (zerosN k).size = k := by
  show (List.replicate k (0 : UInt8)).toArray.size = k
  rw [List.size_toArray, List.length_replicate]
/-- How many sectors a text of k bytes has. -/
def sizeN (k : Nat) : Nat := (k + 251) / 244
theorem sizeF_nat {k : Nat} (h : k ≤ 60000) : sizeF (k : Int) = (sizeN k : Int) := by
  unfold sizeF sizeN; rw [if_pos (by omega)]; omega
theorem sizeN_pos (k : Nat) : 1 ≤ sizeN k := by unfold sizeN; omega
theorem sizeN_le {k : Nat} (h : k ≤ 60000) : sizeN k ≤ 246 := by unfold sizeN; omega
theorem sizeN_room (k : Nat) : k + 8 ≤ sizeN k * 244 := by unfold sizeN; omega
/-- All of a record's bytes: its length, its text, their sum, zeros up to whole sectors. -/
def headF (s : ByteArray) : ByteArray := catB [le 4 s.size, s]
def bodyF (s : ByteArray) : ByteArray := catB [headF s, le 4 (sumF (headF s).data.toList).toNat]
def allF (s : ByteArray) : ByteArray := catB [bodyF s, zerosN (sizeN s.size * 244 - (bodyF s).size)]
/-- Sector i of a record of k sectors. -/
def secF (num i k : Nat) (all : ByteArray) : ByteArray := catB [le 4 num, ⟨(lesL 2 [i, k]).toArray⟩, all.extract (i * 244) ((i + 1) * 244), le 4 num]
def secsF (num : Nat) (s : ByteArray) : List ByteArray := (List.range (sizeN s.size)).map fun i => secF num i (sizeN s.size) (allF s)
/-- The sectors, and the error's number. -/
def makeF (num : Nat) (s : ByteArray) : List ByteArray × Int := if num = 0 then ([], 1) else if 60000 < s.size then ([], 2) else (secsF num s, 0)
theorem catB_size (xs : List ByteArray) : (catB xs).size = (xs.map (·.size)).sum := by
  show (xs.flatMap (·.data.toList)).toArray.size = _
  rw [List.size_toArray, List.length_flatMap]
  congr 1
theorem headF_size (s : ByteArray) : (headF s).size = s.size + 4 := by unfold headF; rw [catB_size]; simp [le_size]; omega
theorem bodyF_size (s : ByteArray) : (bodyF s).size = s.size + 8 := by unfold bodyF; rw [catB_size]; simp [le_size, headF_size]
theorem allF_size (s : ByteArray) : (allF s).size = sizeN s.size * 244 := by
  unfold allF; rw [catB_size]; simp [zerosN_size, bodyF_size]
  have := sizeN_room s.size
  omega
end Go.Proofs.YtcakellhellddaaGreatDoor
