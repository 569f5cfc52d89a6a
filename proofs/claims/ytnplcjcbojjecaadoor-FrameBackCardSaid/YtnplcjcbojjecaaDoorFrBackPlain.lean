import Derived.Test.YtnplcjcbojjecaaDoorFrLaw
set_option linter.unusedSimpArgs false
set_option linter.unusedVariables false
namespace Go.Proofs.YtnplcjcbojjecaaDoor
theorem secsF_mem {num : Nat} {s x : ByteArray} (h : x ∈ secsF num s) : ∃ i, i < sizeN s.size ∧ x = secF num i (sizeN s.size) (allF s) := by
  unfold secsF at h
  obtain ⟨i, hi, rfl⟩ := List.mem_map.1 h
  exact ⟨i, List.mem_range.1 hi, rfl⟩
theorem secsF_count {num : Nat} {s x : ByteArray} (hs : s.size ≤ 60000) (h : x ∈ secsF num s) : countF x = sizeN s.size := by
  obtain ⟨i, hi, rfl⟩ := secsF_mem h
  have := sizeN_le hs
  exact secF_count num i _ _ (by omega) (allF_size s) hi
theorem secsF_size {num : Nat} {s x : ByteArray} (h : x ∈ secsF num s) : x.size = 256 := by
  obtain ⟨i, hi, rfl⟩ := secsF_mem h
  exact secF_size num i _ _ (allF_size s) hi
theorem secsF_num {num : Nat} {s x : ByteArray} (hn : num < 4294967296) (h : x ∈ secsF num s) : secNum x = num := by
  obtain ⟨i, hi, rfl⟩ := secsF_mem h
  exact secF_num num i _ _ hn (allF_size s) hi
theorem headD_mem {l : List ByteArray} (h : l ≠ []) : l.headD ByteArray.empty ∈ l := by
  cases l with
  | nil => exact absurd rfl h
  | cons a l => simp
/-- A sector of another number among those that the first one counts. -/
theorem readF_bad (l : List ByteArray) (num k j : Nat) (hall : ∀ x ∈ l, countF x = k) (hj : j < k) (hbad : secNum (l.getD j ByteArray.empty) ≠ num) : readF l num = none3 := by
  unfold readF
  by_cases c1 : num = 0 ∨ l = [] ∨ secNum (l.headD ByteArray.empty) ≠ num
  · rw [if_pos c1]
  · have hne : l ≠ [] := fun h => c1 (.inr (.inl h))
    have hk := hall _ (headD_mem hne)
    rw [if_neg c1, hk]
    by_cases c2 : k < 1 ∨ l.length < k
    · rw [if_pos c2]
    · rw [if_neg c2, if_neg]
      intro h
      rw [List.all_eq_true] at h
      have := h j (List.mem_range.2 hj)
      unfold pieceOk at this
      simp only [Bool.and_eq_true, decide_eq_true_eq] at this
      exact hbad this.1
/-- Without one of its sectors a record is none. -/
theorem readF_short (num : Nat) (s : ByteArray) (hs : s.size ≤ 60000) (at_ : Nat) (hat : at_ < sizeN s.size) : readF ((secsF num s).take at_ ++ (secsF num s).drop (at_ + 1)) num = none3 := by
  obtain ⟨l, hl⟩ : ∃ l, l = (secsF num s).take at_ ++ (secsF num s).drop (at_ + 1) := ⟨_, rfl⟩
  have hlen : l.length = sizeN s.size - 1 := by
    rw [hl, List.length_append, List.length_take, List.length_drop, secsF_len]; omega
  have hall : ∀ x ∈ l, countF x = sizeN s.size := fun x hx => by
    rw [hl] at hx
    rcases List.mem_append.1 hx with h | h
    · exact secsF_count hs (List.mem_of_mem_take h)
    · exact secsF_count hs (List.mem_of_mem_drop h)
  rw [← hl]
  unfold readF
  by_cases c1 : num = 0 ∨ l = [] ∨ secNum (l.headD ByteArray.empty) ≠ num
  · rw [if_pos c1]
  · have hne : l ≠ [] := fun h => c1 (.inr (.inl h))
    rw [if_neg c1, hall _ (headD_mem hne), if_pos (.inr (by omega))]
/-- One sector of another number. -/
def mixF (num other : Nat) (s : ByteArray) (at_ : Nat) : List ByteArray := (secsF num s).set at_ (secF other at_ (sizeN s.size) (allF s))
theorem mixF_mem {num other at_ : Nat} {s x : ByteArray} (hat : at_ < sizeN s.size) (h : x ∈ mixF num other s at_) : x ∈ secsF num s ∨ x ∈ secsF other s := by
  rcases List.mem_or_eq_of_mem_set h with h | h
  · exact .inl h
  · refine .inr ?_
    rw [h]
    exact List.mem_of_getElem? (secsF_get other s at_ hat)
theorem readF_mix (num other : Nat) (s : ByteArray) (hs : s.size ≤ 60000) (ho : other < 4294967296) (hne : other ≠ num) (at_ : Nat) (hat : at_ < sizeN s.size) : readF (mixF num other s at_) num = none3 := by
  refine readF_bad _ num (sizeN s.size) at_ (fun x hx => ?_) hat ?_
  · rcases mixF_mem hat hx with h | h
    · exact secsF_count hs h
    · exact secsF_count hs h
  · have : (mixF num other s at_).getD at_ ByteArray.empty = secF other at_ (sizeN s.size) (allF s) := by
      unfold mixF
      rw [List.getD_eq_getElem?_getD, List.getElem?_set_self (by rw [secsF_len]; exact hat)]; rfl
    rw [this, secF_num other at_ _ _ ho (allF_size s) hat]
    exact hne
theorem readF_mix_other (num other : Nat) (s : ByteArray) (hs : s.size ≤ 60000) (hn : num < 4294967296) (h0 : 0 < other) (ho : other < 4294967296) (hne : other ≠ num) (at_ : Nat) (hat : at_ < sizeN s.size) :
    (readF (mixF num other s at_) other).2.2 = decide (sizeN s.size = 1) := by
  by_cases h1 : sizeN s.size = 1
  · have ha : at_ = 0 := by omega
    have : mixF num other s at_ = secsF other s ++ [] := by
      subst ha
      apply List.ext_getElem?
      intro i
      unfold mixF
      rw [List.append_nil]
      by_cases hi : i = 0
      · subst hi
        rw [List.getElem?_set_self (by rw [secsF_len]; exact hat), secsF_get other s 0 hat]
      · rw [List.getElem?_eq_none (by rw [List.length_set, secsF_len]; omega), List.getElem?_eq_none (by rw [secsF_len]; omega)]
    rw [this, readF_make other s [] h0 ho hs, h1]; rfl
  · have hp := sizeN_pos s.size
    obtain ⟨j, hj, hja⟩ : ∃ j, j < sizeN s.size ∧ j ≠ at_ := by
      by_cases h : at_ = 0
      · exact ⟨1, by omega, by omega⟩
      · exact ⟨0, by omega, by omega⟩
    have hg : (mixF num other s at_).getD j ByteArray.empty = secF num j (sizeN s.size) (allF s) := by
      unfold mixF
      rw [List.getD_eq_getElem?_getD, List.getElem?_set_ne (Ne.symm hja), secsF_get num s j hj]; rfl
    have hb : readF (mixF num other s at_) other = none3 := by
      refine readF_bad _ other (sizeN s.size) j (fun x hx => ?_) hj ?_
      · rcases mixF_mem hat hx with h | h
        · exact secsF_count hs h
        · exact secsF_count hs h
      · rw [hg, secF_num num j _ _ hn (allF_size s) hj]
        exact Ne.symm hne
    rw [hb, decide_eq_false h1]
end Go.Proofs.YtnplcjcbojjecaaDoor
