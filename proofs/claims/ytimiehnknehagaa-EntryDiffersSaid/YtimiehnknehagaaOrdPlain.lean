import Derived.Test.YtimiehnknehagaaEntS
set_option linter.unusedSimpArgs false
set_option linter.unusedVariables false
namespace Go.Proofs.Ytimiehnknehagaa
open Go.RowKit
/-! What small entries come to does not hang on their order. -/
def smallE (B : Int) (x : Ent) : Prop := -B ≤ x.2.2 ∧ x.2.2 ≤ B
/-- The sum of a key's deltas. -/
def sumK : List Ent → Int × Int → Int
  | [], _ => 0
  | x :: xs, k => (if keyE x = k then x.2.2 else 0) + sumK xs k
theorem sumK_bound {B : Int} (hB : 0 ≤ B) : ∀ (es : List Ent), (∀ x ∈ es, smallE B x) → ∀ k, -(B * es.length) ≤ sumK es k ∧ sumK es k ≤ B * es.length
  | [], _, k => by simp [sumK]
  | x :: es, h, k => by
    have ih := sumK_bound hB es (fun y hy => h y (by simp [hy])) k
    have hx := h x (by simp)
    unfold smallE at hx
    unfold sumK
    rw [List.length_cons, Int.natCast_add, Int.mul_add]
    generalize B * (es.length : Int) = q at ih ⊢
    split <;> omega
theorem sumK_app (a b : List Ent) (k : Int × Int) : sumK (a ++ b) k = sumK a k + sumK b k := by
  induction a with
  | nil => simp [sumK]
  | cons x a ih =>
    show (if keyE x = k then x.2.2 else 0) + sumK (a ++ b) k = ((if keyE x = k then x.2.2 else 0) + sumK a k) + sumK b k
    rw [ih]; omega
theorem sumK_perm {a b : List Ent} (h : a.Perm b) (k : Int × Int) : sumK a k = sumK b k := by
  induction h with
  | nil => rfl
  | cons x _ ih => unfold sumK; rw [ih]
  | swap x y l =>
    show (if keyE y = k then y.2.2 else 0) + ((if keyE x = k then x.2.2 else 0) + sumK l k) = (if keyE x = k then x.2.2 else 0) + ((if keyE y = k then y.2.2 else 0) + sumK l k)
    omega
  | trans _ _ i1 i2 => rw [i1, i2]
/-- What entries come to, where no sum goes beyond. -/
def sumM (es : List Ent) (k : Int × Int) : Option Int := if k ∈ es.map keyE then some (sumK es k) else none
theorem sumK_out {es : List Ent} {k : Int × Int} (h : k ∉ es.map keyE) : sumK es k = 0 := by
  induction es with
  | nil => rfl
  | cons x es ih =>
    rw [List.map_cons, List.mem_cons, not_or] at h
    unfold sumK
    rw [if_neg (fun e => h.1 e.symm), ih h.2]; rfl
theorem sumM_get (es : List Ent) (k : Int × Int) : (sumM es k).getD 0 = sumK es k := by
  unfold sumM
  by_cases h : k ∈ es.map keyE
  · rw [if_pos h]; rfl
  · rw [if_neg h, sumK_out h]; rfl
theorem sumM_snoc (es : List Ent) (x : Ent) : updK (sumM es) (keyE x) ((sumM es (keyE x)).getD 0 + x.2.2) = sumM (es ++ [x]) := by
  funext k
  unfold updK
  by_cases hk : k = keyE x
  · subst hk
    rw [if_pos rfl, sumM_get]
    unfold sumM
    rw [if_pos (by simp), sumK_app]
    show some (sumK es (keyE x) + x.2.2) = some (sumK es (keyE x) + ((if keyE x = keyE x then x.2.2 else 0) + 0))
    rw [if_pos rfl, Int.add_zero]
  · rw [if_neg hk]
    unfold sumM
    have e1 : sumK (es ++ [x]) k = sumK es k := by
      rw [sumK_app]
      show sumK es k + ((if keyE x = k then x.2.2 else 0) + 0) = _
      rw [if_neg (fun e => hk e.symm)]; omega
    have e2 : (k ∈ (es ++ [x]).map keyE) ↔ k ∈ es.map keyE := by simp [hk]
    rw [e1]
    simp only [e2]
theorem addL_small {B : Int} (hB : 0 ≤ B) {N : Nat} (hN : B * N ≤ 9223372036854775807) : ∀ (es pre : List Ent), (∀ x ∈ pre ++ es, smallE B x) → (pre ++ es).length ≤ N → addL (sumM pre) es = some (sumM (pre ++ es))
  | [], pre, _, _ => by rw [List.append_nil]; rfl
  | x :: es, pre, h, hl => by
    have hb := sumK_bound hB (pre ++ [x]) (fun y hy => h y (by simp at hy ⊢; rcases hy with e | e; exact .inl e; exact .inr (.inl e))) (keyE x)
    have hlen : (pre ++ [x]).length ≤ N := by
      rw [List.length_append] at hl ⊢
      simp only [List.length_cons, List.length_nil] at hl ⊢
      omega
    have hm : B * ((pre ++ [x]).length : Int) ≤ B * N := Int.mul_le_mul_of_nonneg_left (by omega) hB
    rw [sumK_app] at hb
    have hs : sumK [x] (keyE x) = x.2.2 := by
      show (if keyE x = keyE x then x.2.2 else 0) + 0 = _
      rw [if_pos rfl, Int.add_zero]
    rw [hs] at hb
    show (if in64 ((sumM pre (keyE x)).getD 0 + x.2.2) then addL _ es else none) = _
    rw [if_pos (by rw [sumM_get]; unfold in64; omega), sumM_snoc]
    have := addL_small hB hN es (pre ++ [x]) (by rw [List.append_assoc]; exact h) (by rw [List.append_assoc]; exact hl)
    rw [this, List.append_assoc]; rfl
theorem sumM_perm {a b : List Ent} (h : a.Perm b) : sumM a = sumM b := by
  funext k
  unfold sumM
  have e : (k ∈ a.map keyE) ↔ k ∈ b.map keyE := (h.map keyE).mem_iff
  rw [sumK_perm h]
  simp only [e]
theorem addL_smalls {B : Int} (hB : 0 ≤ B) {N : Nat} (hN : B * N ≤ 9223372036854775807) {es : List Ent} (h : ∀ x ∈ es, smallE B x) (hl : es.length ≤ N) : addL (fun _ => none) es = some (sumM es) := by
  have := addL_small hB hN es [] h hl
  rw [List.nil_append] at this
  exact this
end Go.Proofs.Ytimiehnknehagaa
