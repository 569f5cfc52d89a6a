import Derived.Test.YtimiehnknehagaaDiffP
set_option linter.unusedSimpArgs false
set_option linter.unusedVariables false
namespace Go.Proofs.Ytimiehnknehagaa
open Go.RowKit
/-! A sorted list of entries, for a map of sums: what goes in, and what is turned. -/
def SortedM (M : Int × Int → Option Int) (out : List Ent) : Prop := out.Pairwise (fun x y => ltK (keyE x) (keyE y)) ∧ ∀ x, x ∈ out ↔ M (keyE x) = some x.2.2
theorem sortedM_nil : SortedM (fun _ => none) [] := ⟨List.Pairwise.nil, fun x => by simp⟩
theorem SortedM.told {M : Int × Int → Option Int} {out : List Ent} (h : SortedM M out) : IsTold M (out.filter fun x => decide (x.2.2 ≠ 0)) := by
  refine ⟨h.1.filter _, fun x => ?_⟩
  rw [List.mem_filter, h.2 x]
  simp
theorem SortedM.at {M : Int × Int → Option Int} {out : List Ent} (h : SortedM M out) {i j : Nat} {x y : Ent} (hx : out[i]? = some x) (hy : out[j]? = some y) (hlt : i < j) : ltK (keyE x) (keyE y) := by
  obtain ⟨h1, h2⟩ := List.getElem?_eq_some_iff.1 hx
  obtain ⟨h3, h4⟩ := List.getElem?_eq_some_iff.1 hy
  have := List.pairwise_iff_getElem.1 h.1 i j h1 h3 hlt
  rwa [h2, h4] at this
theorem SortedM.ins {M : Int × Int → Option Int} {out : List Ent} {x : Ent} {k : Nat} (h : SortedM M out) (hlt : ∀ j y, j < k → out[j]? = some y → ltK (keyE y) (keyE x)) (hge : ∀ y, out[k]? = some y → ltK (keyE x) (keyE y)) :
    M (keyE x) = none ∧ SortedM (updK M (keyE x) x.2.2) (out.take k ++ [x] ++ out.drop k) := by
  have hL : ∀ y ∈ out.take k, ltK (keyE y) (keyE x) := fun y hy => by
    obtain ⟨j, hj, e⟩ := List.getElem_of_mem hy
    rw [List.length_take] at hj
    refine hlt j y (by omega) ?_
    rw [← e, List.getElem_take, List.getElem?_eq_getElem]
  have hR : ∀ y ∈ out.drop k, ltK (keyE x) (keyE y) := fun y hy => by
    obtain ⟨j, hj, e⟩ := List.getElem_of_mem hy
    rw [List.length_drop] at hj
    have hk : k < out.length := by omega
    have h1 := hge _ (List.getElem?_eq_getElem hk)
    have hj2 : out[k + j]? = some y := by rw [← e, List.getElem_drop, List.getElem?_eq_getElem]
    rcases Nat.eq_zero_or_pos j with hj0 | hj0
    · subst hj0
      rw [Nat.add_zero, List.getElem?_eq_getElem hk] at hj2
      rw [← Option.some.inj hj2]; exact h1
    · exact ltK_trans h1 (h.at (List.getElem?_eq_getElem hk) hj2 (by omega))
  have hmem : ∀ y ∈ out, keyE y ≠ keyE x := fun y hy he => by
    rw [← List.take_append_drop k out] at hy
    rcases List.mem_append.1 hy with hy | hy
    · have := hL y hy; rw [he] at this; exact ltK_irrefl _ this
    · have := hR y hy; rw [he] at this; exact ltK_irrefl _ this
  have hnone : M (keyE x) = none := by
    cases hm : M (keyE x) with
    | none => rfl
    | some d => exact absurd rfl (hmem (x.1, x.2.1, d) ((h.2 (x.1, x.2.1, d)).2 hm))
  refine ⟨hnone, ?_, fun y => ?_⟩
  · have h0 := h.1
    rw [← List.take_append_drop k out, List.pairwise_append] at h0
    obtain ⟨p1, p2, p3⟩ := h0
    rw [List.append_assoc, List.pairwise_append]
    refine ⟨p1, ?_, fun a ha b hb => ?_⟩
    · rw [List.singleton_append, List.pairwise_cons]
      exact ⟨hR, p2⟩
    · rw [List.singleton_append, List.mem_cons] at hb
      rcases hb with rfl | hb
      · exact hL a ha
      · exact p3 a ha b hb
  · have e1 : y ∈ out.take k ++ [x] ++ out.drop k ↔ y = x ∨ y ∈ out := by
      constructor
      · intro hy
        rcases List.mem_append.1 hy with hy | hy
        · rcases List.mem_append.1 hy with hy | hy
          · exact .inr (List.mem_of_mem_take hy)
          · exact .inl (List.mem_singleton.1 hy)
        · exact .inr (List.mem_of_mem_drop hy)
      · rintro (rfl | hy)
        · simp
        · rw [← List.take_append_drop k out] at hy
          rcases List.mem_append.1 hy with hy | hy <;> simp [hy]
    rw [e1]
    unfold updK
    by_cases hk : keyE y = keyE x
    · rw [if_pos hk]
      constructor
      · rintro (rfl | hy)
        · rfl
        · exact absurd hk (hmem y hy)
      · intro he
        left
        obtain ⟨y1, y2, y3⟩ := y
        obtain ⟨x1, x2, x3⟩ := x
        unfold keyE at hk
        injection hk with q1 q2
        injection he with q3
        dsimp only at q1 q2 q3
        rw [q1, q2, q3]
    · rw [if_neg hk, ← h.2 y]
      constructor
      · rintro (rfl | hy)
        · exact absurd rfl hk
        · exact hy
      · exact .inr
theorem SortedM.set {M : Int × Int → Option Int} {out : List Ent} {x y : Ent} {k : Nat} (h : SortedM M out) (hy : out[k]? = some y) (he : keyE y = keyE x) (d : Int) :
    M (keyE x) = some y.2.2 ∧ SortedM (updK M (keyE x) d) (out.set k (x.1, x.2.1, d)) := by
  obtain ⟨hk, hyk⟩ := List.getElem?_eq_some_iff.1 hy
  have hm : M (keyE x) = some y.2.2 := by rw [← he]; exact (h.2 y).1 (List.mem_of_getElem? hy)
  have hkey : ∀ (i : Nat) (hi : i < out.length), keyE ((out.set k (x.1, x.2.1, d))[i]'(by simpa using hi)) = keyE out[i] := fun i hi => by
    rw [List.getElem_set]
    by_cases hik : k = i
    · subst hik
      rw [if_pos rfl, hyk, he]; rfl
    · rw [if_neg hik]
  refine ⟨hm, ?_, fun z => ?_⟩
  · rw [List.pairwise_iff_getElem]
    intro i j hi hj hij
    rw [List.length_set] at hi hj
    rw [hkey i hi, hkey j hj]
    exact List.pairwise_iff_getElem.1 h.1 i j hi hj hij
  · unfold updK
    have hin : (x.1, x.2.1, d) ∈ out.set k (x.1, x.2.1, d) := List.mem_set hk _
    by_cases hz : keyE z = keyE x
    · rw [if_pos hz]
      constructor
      · intro hm2
        obtain ⟨i, hi, e⟩ := List.getElem_of_mem hm2
        rw [List.length_set] at hi
        have hik : i = k := by
          rcases Nat.lt_trichotomy i k with hlt | rfl | hlt
          · have := List.pairwise_iff_getElem.1 h.1 i k hi hk hlt
            rw [hyk, he, ← hz, ← e, hkey i hi] at this
            exact absurd this (ltK_irrefl _)
          · rfl
          · have := List.pairwise_iff_getElem.1 h.1 k i hk hi hlt
            rw [hyk, he, ← hz, ← e, hkey i hi] at this
            exact absurd this (ltK_irrefl _)
        subst hik
        rw [List.getElem_set_self] at e
        rw [← e]
      · intro he2
        obtain ⟨z1, z2, z3⟩ := z
        obtain ⟨x1, x2, x3⟩ := x
        unfold keyE at hz
        injection hz with q1 q2
        injection he2 with q3
        dsimp only at q1 q2 q3 hin
        rw [q1, q2, ← q3]; exact hin
    · rw [if_neg hz, ← h.2 z]
      constructor
      · intro hm2
        rcases List.mem_or_eq_of_mem_set hm2 with hm2 | hm2
        · exact hm2
        · rw [hm2] at hz; exact absurd rfl hz
      · intro hm2
        obtain ⟨i, hi, e⟩ := List.getElem_of_mem hm2
        have hik : k ≠ i := fun hki => by
          subst hki
          rw [hyk] at e
          rw [← e] at hz
          exact hz he
        have : (out.set k (x.1, x.2.1, d))[i]'(by simpa using hi) = z := by rw [List.getElem_set, if_neg hik, e]
        rw [← this]
        exact List.getElem_mem _
end Go.Proofs.Ytimiehnknehagaa
