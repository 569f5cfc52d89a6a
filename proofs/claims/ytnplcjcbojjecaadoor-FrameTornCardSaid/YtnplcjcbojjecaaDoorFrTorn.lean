import Derived.Test.YtnplcjcbojjecaaDoorFrLaw
set_option linter.unusedSimpArgs false
set_option linter.unusedVariables false
namespace Go.Proofs.YtnplcjcbojjecaaDoor
theorem secNum_facts {a : ByteArray} {v : Nat} (h : secNum a = v) (h0 : 0 < v) : a.data.toList.length = 256 ∧ a.data.toList.take 4 = a.data.toList.drop 252 ∧ Lib.leNat (a.data.toList.take 4) = v := by
  have hs := secNum_size (x := a) (by omega)
  have hl : a.data.toList.length = 256 := by rw [Array.length_toList]; exact hs
  unfold secNum at h
  by_cases hc : a.size = 256 ∧ ((a.extract 0 4).toList == (a.extract 252 a.size).toList) = true
  · rw [if_pos hc] at h
    have h2 := hc.2
    rw [ba_toList_beq, decide_eq_true_iff, extract_list, extract_list, hs, List.drop_zero] at h2
    refine ⟨hl, ?_, h⟩
    rw [h2]
    exact List.take_of_length_le (by rw [List.length_drop, hl]; exact Nat.le_refl _)
  · rw [if_neg hc] at h; omega
theorem secNum_of {x : ByteArray} (hl : x.data.toList.length = 256) : secNum x = if x.data.toList.take 4 = x.data.toList.drop 252 then Lib.leNat (x.data.toList.take 4) else 0 := by
  have hs : x.size = 256 := by rw [← hl, Array.length_toList]; rfl
  have hd : (x.data.toList.drop 252).take (256 - 252) = x.data.toList.drop 252 := List.take_of_length_le (by rw [List.length_drop, hl]; exact Nat.le_refl _)
  unfold secNum
  rw [ba_toList_beq, extract_list, extract_list, hs, List.drop_zero, hd]
  by_cases h : x.data.toList.take 4 = x.data.toList.drop 252
  · rw [if_pos h, if_pos ⟨rfl, by rw [decide_eq_true_iff]; exact h⟩]; rfl
  · rw [if_neg h, if_neg (fun hh => h (by have := hh.2; rw [decide_eq_true_iff] at this; exact this))]
/-- A beginning of a new sector over an old one. -/
theorem torn (a b : ByteArray) (old num i : Nat) (ha : secNum a = old) (hb : secNum b = num) (h0 : 0 < old) (h1 : 0 < num) (hne : old ≠ num) (hi : i ≤ 256) :
    (secNum (b.extract 0 i ++ a.extract i a.size) = 0 ∨ secNum (b.extract 0 i ++ a.extract i a.size) = old ∨ secNum (b.extract 0 i ++ a.extract i a.size) = num) ∧
    (secNum (b.extract 0 i ++ a.extract i a.size) = num ↔ b.extract 0 i ++ a.extract i a.size = b) ∧ (i = 0 → secNum (b.extract 0 i ++ a.extract i a.size) = old) := by
  obtain ⟨la, ea, na⟩ := secNum_facts ha h0
  obtain ⟨lb, eb, nb⟩ := secNum_facts hb h1
  have hsa : a.size = 256 := secNum_size (by omega)
  have hx : (b.extract 0 i ++ a.extract i a.size).data.toList = b.data.toList.take i ++ a.data.toList.drop i := by
    rw [ByteArray.data_append, Array.toList_append, extract_list, extract_list, hsa, List.drop_zero, Nat.sub_zero]
    congr 1
    exact List.take_of_length_le (by rw [List.length_drop, la]; exact Nat.le_refl _)
  obtain ⟨x, hxe⟩ : ∃ x, x = b.extract 0 i ++ a.extract i a.size := ⟨_, rfl⟩
  rw [← hxe] at hx ⊢
  have hti : (b.data.toList.take i).length = i := by rw [List.length_take, lb]; omega
  have lx : x.data.toList.length = 256 := by rw [hx, List.length_append, hti, List.length_drop, la]; omega
  have hn := secNum_of lx
  have hlow : i ≤ 252 → x.data.toList.drop 252 = a.data.toList.drop 252 := fun h => by
    rw [hx, List.drop_append, hti, List.drop_of_length_le (by rw [hti]; exact h), List.nil_append, List.drop_drop]
    congr 1; omega
  have hhigh : 252 < i → x.data.toList.take 4 = b.data.toList.take 4 := fun h => by
    rw [hx, List.take_append_of_le_length (by rw [hti]; omega), List.take_take]
    congr 1; omega
  have key : secNum x = 0 ∨ (i ≤ 252 ∧ secNum x = old) ∨ (252 < i ∧ secNum x = num ∧ x.data.toList.take 4 = x.data.toList.drop 252) := by
    by_cases h : x.data.toList.take 4 = x.data.toList.drop 252
    · rw [if_pos h] at hn
      by_cases hc : i ≤ 252
      · refine .inr (.inl ⟨hc, ?_⟩)
        rw [hn, h, hlow hc, ← ea, na]
      · refine .inr (.inr ⟨by omega, ?_, h⟩)
        rw [hn, hhigh (by omega), nb]
    · rw [if_neg h] at hn; exact .inl hn
  refine ⟨?_, ⟨fun h => ?_, fun h => by rw [h]; exact hb⟩, fun h => ?_⟩
  · rcases key with h | h | h
    · exact .inl h
    · exact .inr (.inl h.2)
    · exact .inr (.inr h.2.1)
  · rcases key with h2 | h2 | h2
    · omega
    · omega
    · apply ba_ext
      have e1 : x.data.toList.drop 252 = b.data.toList.drop 252 := by rw [← h2.2.2, hhigh h2.1, eb]
      have e2 : x.data.toList.take 252 = b.data.toList.take 252 := by
        rw [hx, List.take_append_of_le_length (by rw [hti]; omega), List.take_take]
        congr 1; omega
      rw [← List.take_append_drop 252 x.data.toList, e1, e2, List.take_append_drop]
  · subst h
    have : x = a := by
      apply ba_ext
      rw [hx]; simp
    rw [this]; exact ha
end Go.Proofs.YtnplcjcbojjecaaDoor
