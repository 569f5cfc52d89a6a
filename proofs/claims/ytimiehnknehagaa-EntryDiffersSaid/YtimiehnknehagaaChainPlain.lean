import Derived.Test.YtimiehnknehagaaOrdPlain
import Derived.Test.YtimiehnknehagaaEntS
set_option linter.unusedSimpArgs false
set_option linter.unusedVariables false
namespace Go.Proofs.Ytimiehnknehagaa
open Go.RowKit
/-! Differences one behind the other come to the whole difference. -/
theorem sumK_mem : ∀ {es : List Ent}, es.Pairwise (fun x y => ltK (keyE x) (keyE y)) → ∀ x ∈ es, sumK es (keyE x) = x.2.2
  | [], _, x, h => by simp at h
  | y :: es, hp, x, h => by
    rw [List.pairwise_cons] at hp
    show (if keyE y = keyE x then y.2.2 else 0) + sumK es (keyE x) = _
    rcases List.mem_cons.1 h with e | h
    · subst e
      have : keyE x ∉ es.map keyE := fun hm => by
        obtain ⟨z, hz, he⟩ := List.mem_map.1 hm
        have := hp.1 z hz
        rw [he] at this
        exact ltK_irrefl _ this
      rw [if_pos rfl, sumK_out this, Int.add_zero]
    · have hne : ¬ keyE y = keyE x := fun e => by
        have := hp.1 x h
        rw [e] at this
        exact ltK_irrefl _ this
      rw [if_neg hne, sumK_mem hp.2 x h, Int.zero_add]
theorem told_sum {M : Int × Int → Option Int} {es : List Ent} (h : IsTold M es) (k : Int × Int) : sumK es k = (M k).getD 0 := by
  by_cases hk : k ∈ es.map keyE
  · obtain ⟨x, hx, rfl⟩ := List.mem_map.1 hk
    rw [sumK_mem h.1 x hx, ((h.2 x).1 hx).1]; rfl
  · rw [sumK_out hk]
    cases hm : M k with
    | none => rfl
    | some d =>
      by_cases hd : d = 0
      · rw [hd]; rfl
      · exact absurd (List.mem_map.2 ⟨(k.1, k.2, d), (h.2 (k.1, k.2, d)).2 ⟨hm, hd⟩, rfl⟩) hk
theorem get_iff {o : Option Int} {d : Int} (hd : d ≠ 0) : o = some d ↔ o.getD 0 = d := by
  cases o with
  | none => simp; exact fun e => hd e.symm
  | some e => simp
theorem IsTold.congr {M M' : Int × Int → Option Int} {es : List Ent} (h : IsTold M es) (hq : ∀ k, (M k).getD 0 = (M' k).getD 0) : IsTold M' es := by
  refine ⟨h.1, fun x => (h.2 x).trans ?_⟩
  constructor
  · rintro ⟨h1, h2⟩; exact ⟨(get_iff h2).2 (by rw [← hq]; exact (get_iff h2).1 h1), h2⟩
  · rintro ⟨h1, h2⟩; exact ⟨(get_iff h2).2 (by rw [hq]; exact (get_iff h2).1 h1), h2⟩
theorem diffOf_get {A B : Int × Int → Option Int} {k : Int × Int} (h : in64 (dOf A B k)) : (diffOf A B k).getD 0 = dOf A B k := by
  unfold diffOf
  by_cases hk : (A k).isSome ∨ (B k).isSome
  · rw [if_pos ⟨hk, h⟩]; rfl
  · rw [if_neg (fun e => hk e.1)]
    have h1 : A k = none := by cases hq : A k with | none => rfl | some _ => exact absurd (.inl (by rw [hq]; rfl)) hk
    have h2 : B k = none := by cases hq : B k with | none => rfl | some _ => exact absurd (.inr (by rw [hq]; rfl)) hk
    unfold dOf
    rw [h1, h2]; rfl
/-- No difference of the two goes beyond. -/
def fitD (A B : Int × Int → Option Int) : Prop := ∀ k, in64 (dOf A B k)
theorem chain_told {A B C : Int × Int → Option Int} {e1 e2 e3 : List Ent} (h1 : IsTold (diffOf A B) e1) (h2 : IsTold (diffOf B C) e2) (h3 : IsTold (diffOf A C) e3) (f1 : fitD A B) (f2 : fitD B C) (f3 : fitD A C) : IsTold (sumM (e1 ++ e2)) e3 :=
  h3.congr fun k => by
    rw [sumM_get, sumK_app, told_sum h1, told_sum h2, diffOf_get (f1 k), diffOf_get (f2 k), diffOf_get (f3 k)]
    unfold dOf; omega
theorem self_told {B : Int × Int → Option Int} {es : List Ent} (h : IsTold (diffOf B B) es) (f : fitD B B) : es = [] := by
  cases es with
  | nil => rfl
  | cons x es =>
    obtain ⟨h1, h2⟩ := (h.2 x).1 (by simp)
    have := (get_iff h2).1 h1
    rw [diffOf_get (f _)] at this
    unfold dOf at this
    omega
theorem back_told {A B : Int × Int → Option Int} {e1 e2 es : List Ent} (h1 : IsTold (diffOf A B) e1) (h2 : IsTold (diffOf B A) e2) (f1 : fitD A B) (f2 : fitD B A) (h : IsTold (sumM (e1 ++ e2)) es) : es = [] := by
  cases es with
  | nil => rfl
  | cons x es =>
    obtain ⟨q1, q2⟩ := (h.2 x).1 (by simp)
    have := (get_iff q2).1 q1
    rw [sumM_get, sumK_app, told_sum h1, told_sum h2, diffOf_get (f1 _), diffOf_get (f2 _)] at this
    unfold dOf at this
    omega
/-- No sum on the way goes beyond. -/
theorem addL_ok : ∀ (es pre : List Ent), (∀ m k, in64 (sumK (pre ++ es.take m) k)) → addL (sumM pre) es = some (sumM (pre ++ es))
  | [], pre, _ => by rw [List.append_nil]; rfl
  | x :: es, pre, h => by
    have h1 := h 1 (keyE x)
    rw [List.take_succ_cons, List.take_zero, sumK_app] at h1
    have hs : sumK [x] (keyE x) = x.2.2 := by
      show (if keyE x = keyE x then x.2.2 else 0) + 0 = _
      rw [if_pos rfl, Int.add_zero]
    rw [hs] at h1
    show (if in64 ((sumM pre (keyE x)).getD 0 + x.2.2) then addL _ es else none) = _
    rw [if_pos (by rw [sumM_get]; exact h1), sumM_snoc]
    have := addL_ok es (pre ++ [x]) (fun m k => by
      have := h (m + 1) k
      rwa [List.take_succ_cons, ← List.singleton_append, ← List.append_assoc] at this)
    rw [this, List.append_assoc]; rfl
theorem sumK_one {B : Int} (hB : 0 ≤ B) {es : List Ent} (hp : es.Pairwise (fun x y => ltK (keyE x) (keyE y))) (h : ∀ x ∈ es, smallE B x) (k : Int × Int) : -B ≤ sumK es k ∧ sumK es k ≤ B := by
  by_cases hk : k ∈ es.map keyE
  · obtain ⟨x, hx, rfl⟩ := List.mem_map.1 hk
    rw [sumK_mem hp x hx]; exact h x hx
  · rw [sumK_out hk]; omega
theorem addL_two {B : Int} (hB : 0 ≤ B) (h2 : B + B ≤ 9223372036854775807) {a b : List Ent} (ha : a.Pairwise (fun x y => ltK (keyE x) (keyE y))) (hb : b.Pairwise (fun x y => ltK (keyE x) (keyE y))) (sa : ∀ x ∈ a, smallE B x) (sb : ∀ x ∈ b, smallE B x) :
    addL (fun _ => none) (a ++ b) = some (sumM (a ++ b)) := by
  have := addL_ok (a ++ b) [] (fun m k => by
    rw [List.nil_append, List.take_append, sumK_app]
    have q1 := sumK_one hB (ha.sublist (List.take_sublist m a)) (fun x hx => sa x (List.mem_of_mem_take hx)) k
    have q2 := sumK_one hB (hb.sublist (List.take_sublist (m - a.length) b)) (fun x hx => sb x (List.mem_of_mem_take hx)) k
    unfold in64; omega)
  rw [List.nil_append] at this
  exact this
end Go.Proofs.Ytimiehnknehagaa
