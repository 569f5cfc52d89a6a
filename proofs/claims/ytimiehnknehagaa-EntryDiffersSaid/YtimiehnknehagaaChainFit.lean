import Derived.Test.YtimiehnknehagaaStK
set_option linter.unusedSimpArgs false
set_option linter.unusedVariables false
namespace Go.Proofs.Ytimiehnknehagaa
open Go.RowKit
/-! Small states' differences fit. -/
theorem buck_small {l : List LoanM} (h : ∀ x ∈ l, smallLoan x) (k : Int × Int) : 0 ≤ (buckOf l k).getD 0 ∧ (buckOf l k).getD 0 ≤ 1000000000000000000 := by
  unfold buckOf
  cases hq : l.find? (fun x => x.id == k.1) with
  | none => simp
  | some x =>
    obtain ⟨h1, h2, h3, h4, h5, h6⟩ := h x (List.mem_of_find?_eq_some hq)
    dsimp only
    split
    · simp; omega
    · split
      · simp; omega
      · split
        · simp; omega
        · simp
theorem small_dOf {a b : List LoanM} (ha : ∀ x ∈ a, smallLoan x) (hb : ∀ x ∈ b, smallLoan x) (k : Int × Int) : -1000000000000000000 ≤ dOf (buckOf a) (buckOf b) k ∧ dOf (buckOf a) (buckOf b) k ≤ 1000000000000000000 := by
  have h1 := buck_small ha k
  have h2 := buck_small hb k
  unfold dOf; omega
theorem small_fit {a b : List LoanM} (ha : ∀ x ∈ a, smallLoan x) (hb : ∀ x ∈ b, smallLoan x) : fitD (buckOf a) (buckOf b) := fun k => by
  have := small_dOf ha hb k
  unfold in64; omega
theorem small_told {a b : List LoanM} (ha : ∀ x ∈ a, smallLoan x) (hb : ∀ x ∈ b, smallLoan x) {es : List Ent} (h : IsTold (diffOf (buckOf a) (buckOf b)) es) : ∀ x ∈ es, smallE 1000000000000000000 x := fun x hx => by
  obtain ⟨h1, h2⟩ := (h.2 x).1 hx
  have h3 := (get_iff h2).1 h1
  rw [diffOf_get (small_fit ha hb _)] at h3
  have := small_dOf ha hb (keyE x)
  unfold smallE; omega
end Go.Proofs.Ytimiehnknehagaa
