import Derived.Test.YtimiehnknehagaaStK
set_option linter.unusedSimpArgs false
set_option linter.unusedVariables false
namespace Go.Proofs.Ytimiehnknehagaa
open Go.RowKit
/-! The kinds of entries that come in. -/
abbrev EntD := Int × Int × Int × Unit
def kEnt : Kd Try.prog 52 EntD := Kd.struct Try.underlying52 (Fk.cons kIn (Fk.cons kIn (Fk.cons kI6 Fk.nil))) 3 (by kernel_rfl)
def kEnts : Kd Try.prog 28 (List EntD) := Kd.slice Try.underlying28 (by kernel_rfl) kEnt (by decide)
def entOf (x : EntD) : Ent := (x.1, x.2.1, x.2.2.1)
theorem kEnt_cells {w : World} {x : EntD} {cs : List Value} (h : kEnt.R w x cs) : cs = encE (entOf x) ∧ in64E (entOf x) := by
  obtain ⟨a, b, c, u⟩ := x
  obtain ⟨hl, ⟨h1, w1⟩, ⟨h2, w2⟩, ⟨h3, w3⟩, _⟩ := h
  match cs, hl with
  | [c0, c1, c2], _ =>
    simp [kIn, kI6, Kd.int] at h1 h2 h3
    subst h1 h2 h3
    exact ⟨rfl, in64_wf w1, in64_wf w2, in64_wf w3⟩
theorem ents_in {w : World} {l : List EntD} {v : Value} (h : SlR kEnt w l v) : RowsAt encE 3 w v (l.map entOf) ∧ ∀ x ∈ l.map entOf, in64E x := by
  obtain ⟨ad, cap, h1, h2, h3, h4, h5⟩ := h
  have hall : ∀ (i : Nat) x, l[i]? = some x → ∃ b o, ad = some ⟨b, o, none⟩ ∧ in64E (entOf x) ∧ ∀ (j : Nat) u, (encE (entOf x))[j]? = some u → w.cell? ⟨b, o + i * 3 + j, none⟩ = some u := fun i x hi => by
    obtain ⟨b, o, cs, e1, e2, e3, e4⟩ := h5 i x hi
    obtain ⟨rfl, w1⟩ := kEnt_cells e4
    exact ⟨b, o, e1, w1, fun j u hj => by
      obtain ⟨hj1, hj2⟩ := List.getElem?_eq_some_iff.1 hj
      exact (e3 j hj1).trans hj⟩
  refine ⟨⟨ad, cap, by rw [List.length_map]; exact h1, by rw [List.length_map]; exact h2, by rw [List.length_map]; unfold maxLen at h3; omega, fun hl => ?_⟩, fun x hx => ?_⟩
  · rw [List.length_map] at hl
    obtain ⟨b, o, e1, _, e3⟩ := hall 0 l[0] (List.getElem?_eq_getElem hl)
    refine ⟨b, o, e1, World.block_lt_of_cell? w _ (e3 0 _ rfl), fun i x hi j u hj => ?_⟩
    rw [List.getElem?_map] at hi
    obtain ⟨y, hy, rfl⟩ := Option.map_eq_some_iff.1 hi
    obtain ⟨b2, o2, f1, _, f3⟩ := hall i y hy
    rw [e1] at f1
    injection f1 with f1
    injection f1 with q1 q2 _
    subst q1 q2
    exact f3 j u hj
  · obtain ⟨y, hy, rfl⟩ := List.mem_map.1 hx
    obtain ⟨i, hi, e⟩ := List.getElem_of_mem hy
    obtain ⟨_, _, _, h9, _⟩ := hall i y (by rw [List.getElem?_eq_getElem hi, e])
    exact h9
/-! Rows of entries that a call owns. -/
theorem ent_empty (w : World) : (w.alloc (.cells #[] 52)).ownsRow w.heap.size 52 3 (.slice (some ⟨w.heap.size, 0, none⟩) 0 0) 0 (([] : List Ent).flatMap encE) :=
  ⟨rfl, .inr ⟨w.heap.size, 0, #[], rfl, Nat.le_refl _, Blk.new w #[] 52, Nat.le_refl _, by decide, rfl, rfl⟩⟩
end Go.Proofs.Ytimiehnknehagaa
