import Derived.Test.YtnplcjcbojjecaaDoorFrPlain
set_option linter.unusedSimpArgs false
set_option linter.unusedVariables false
namespace Go.Proofs.YtnplcjcbojjecaaDoor
/-! A record's reading, as data. -/
abbrev none3 : ByteArray × Nat × Bool := (ByteArray.empty, 0, false)
def pieceOk (num n i : Nat) (x : ByteArray) : Bool := decide (secNum x = num) && ((x.extract 4 8).toList == (⟨(lesL 2 [i, n]).toArray⟩ : ByteArray).toList)
def wholeF (l : List ByteArray) (n : Nat) : ByteArray := catB ((l.take n).map (·.extract 8 252))
def restF (all : ByteArray) : Bool := (all.extract (4 + numF 4 all + 4) all.size).data.toList.all (· == 0)
def tailF (n : Nat) (all : ByteArray) : ByteArray × Nat × Bool :=
  if 60000 < numF 4 all ∨ sizeF (numF 4 all : Int) ≠ (n : Int) then none3
  else if (sumF (all.extract 0 (4 + numF 4 all)).data.toList).toNat ≠ numF 4 (all.extract (4 + numF 4 all) all.size) ∨ restF all = false then none3
  else (all.extract 4 (4 + numF 4 all), n, true)
def countF (x : ByteArray) : Nat := numF 2 (x.extract 6 x.size)
def readF (l : List ByteArray) (num : Nat) : ByteArray × Nat × Bool :=
  if num = 0 ∨ l = [] ∨ secNum (l.headD ByteArray.empty) ≠ num then none3
  else if countF (l.headD ByteArray.empty) < 1 ∨ l.length < countF (l.headD ByteArray.empty) then none3
  else if (List.range (countF (l.headD ByteArray.empty))).all (fun i => pieceOk num (countF (l.headD ByteArray.empty)) i (l.getD i ByteArray.empty)) then tailF (countF (l.headD ByteArray.empty)) (wholeF l (countF (l.headD ByteArray.empty))) else none3
theorem secNum_size {x : ByteArray} (h : secNum x ≠ 0) : x.size = 256 := by
  unfold secNum at h
  by_cases h1 : x.size = 256 ∧ ((x.extract 0 4).toList == (x.extract 252 x.size).toList) = true
  · exact h1.1
  · rw [if_neg h1] at h; exact absurd rfl h
theorem wholeF_size : ∀ (l : List ByteArray) (n : Nat), n ≤ l.length → (∀ i, i < n → (l.getD i ByteArray.empty).size = 256) → (wholeF l n).size = n * 244
  | _, 0, _, _ => by unfold wholeF; rw [catB_size]; simp
  | [], n + 1, h, _ => by simp at h
  | x :: l, n + 1, h, hs => by
    have h0 := hs 0 (by omega)
    simp only [List.getD_cons_zero] at h0
    have ih := wholeF_size l n (by simpa using h) (fun i hi => by have := hs (i + 1) (by omega); simpa using this)
    unfold wholeF at ih ⊢
    rw [catB_size] at ih ⊢
    rw [List.take_succ_cons, List.map_cons, List.map_cons, List.sum_cons, ih, ByteArray.size_extract]
    omega
theorem wholeF_succ (l : List ByteArray) (i : Nat) (hi : i < l.length) : (wholeF l (i + 1)).data.toList = (wholeF l i).data.toList ++ ((l.getD i ByteArray.empty).extract 8 252).data.toList := by
  unfold wholeF catB
  rw [List.take_succ_eq_append_getElem hi, List.map_append, List.flatMap_append]
  simp [List.getD_eq_getElem?_getD, List.getElem?_eq_getElem hi]
theorem dw_nil {α : Type} (q : α → Bool) : ∀ l : List α, l.dropWhile q = [] ↔ ∀ x ∈ l, q x = true
  | [] => by simp
  | a :: l => by
    rw [List.dropWhile_cons]
    by_cases h : q a = true
    · rw [if_pos h, dw_nil q l]; simp [h]
    · rw [if_neg h]; simp [h]
theorem trim_nil (l : List UInt8) : (Lib.trimB l 0 = [] ↔ l.all (· == 0) = true) := by
  unfold Lib.trimB Lib.trimLeftB Lib.trimRightB
  constructor
  · intro h
    rw [dw_nil] at h
    rw [List.all_eq_true]
    intro x hx
    have hx2 := List.mem_reverse.2 hx
    rw [← List.takeWhile_append_dropWhile (p := (· == (0 : UInt8))) (l := l.reverse)] at hx2
    rcases List.mem_append.1 hx2 with hm | hm
    · have := List.all_takeWhile (p := (· == (0 : UInt8))) (l := l.reverse)
      rw [List.all_eq_true] at this
      exact this x hm
    · exact h x (List.mem_reverse.2 hm)
  · intro h
    rw [List.all_eq_true] at h
    have : l.reverse.dropWhile (· == (0 : UInt8)) = [] := by
      rw [dw_nil]
      exact fun x hx => h x (List.mem_reverse.1 hx)
    rw [this]; rfl
end Go.Proofs.YtnplcjcbojjecaaDoor
