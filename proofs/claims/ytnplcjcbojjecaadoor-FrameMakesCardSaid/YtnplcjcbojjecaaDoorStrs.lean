import Derived.Test.YtnplcjcbojjecaaDoorSteps
import Derived.Test.YtnplcjcbojjecaaDoorTy
set_option linter.unusedSimpArgs false
set_option linter.unusedVariables false
namespace Go.Proofs.YtnplcjcbojjecaaDoor
open Go.RowKit
/-- A slice of texts. -/
def StrsAt (w : World) (v : Value) (l : List ByteArray) : Prop := l.length ≤ 9223372036854775807 ∧ ((v = .slice none 0 0 ∧ l = []) ∨
  ∃ b o cap, v = .slice (some ⟨b, o, none⟩) l.length cap ∧ l.length ≤ cap ∧ b < w.heap.size ∧ ∀ (j : Nat) x, l[j]? = some x → w.cell? ⟨b, o + j, none⟩ = some (.string x))
theorem StrsAt.below {w w' : World} {v : Value} {l : List ByteArray} (h : StrsAt w v l) (hb : Below w.heap.size w w') : StrsAt w' v l := by
  refine ⟨h.1, ?_⟩
  rcases h.2 with h | ⟨b, o, cap, h1, h2, h3, h4⟩
  · exact .inl h
  · exact .inr ⟨b, o, cap, h1, h2, Nat.lt_of_lt_of_le h3 hb.size, fun j x hj => (hb.cell (p := ⟨b, o + j, none⟩) h3).trans (h4 j x hj)⟩
theorem StrsAt.nil (w : World) : StrsAt w (.slice none 0 0) [] := ⟨by simp, .inl ⟨rfl, rfl⟩⟩
theorem StrsAt.out {w : World} {v : Value} {l : List ByteArray} (h : StrsAt w v l) : ∃ a c, v = .slice a l.length c ∧ l.length ≤ 9223372036854775807 ∧
    (0 < l.length → ∃ b o, a = some ⟨b, o, none⟩ ∧ b < w.heap.size ∧ ∀ (j : Nat) x, l[j]? = some x → w.cell? ⟨b, o + j, none⟩ = some (.string x)) := by
  rcases h.2 with ⟨rfl, rfl⟩ | ⟨b, o, cap, rfl, h2, h3, h4⟩
  · exact ⟨_, _, rfl, h.1, fun h => by simp at h⟩
  · exact ⟨_, _, rfl, h.1, fun _ => ⟨b, o, rfl, h3, h4⟩⟩
/-- A row of texts that a call owns. -/
theorem StrsAt.own {w : World} {base n : Nat} {t : TypeId} {v : Value} {l : List ByteArray} (h : w.ownsRow base t 1 v n (l.map Value.string)) (hn : n = l.length) (hm : n ≤ 9223372036854775807) : StrsAt w v l := by
  subst hn
  refine ⟨hm, ?_⟩
  rcases h.2 with ⟨rfl, h0⟩ | ⟨g, cap, cur, rfl, h2, h3, h4, h5, h6, h7⟩
  · exact .inl ⟨rfl, List.length_eq_zero_iff.1 (by omega)⟩
  · refine .inr ⟨g, 0, cap, rfl, h4, lt_of_block h3, fun j x hj => ?_⟩
    rw [Nat.zero_add]
    have hlt : j < l.length := by
      rcases Nat.lt_or_ge j l.length with h | h
      · exact h
      · rw [List.getElem?_eq_none h] at hj; cases hj
    have e : (cur.toList.take (l.length * 1))[j]? = some (Value.string x) := by rw [h7, List.getElem?_map, hj]; rfl
    rw [List.getElem?_take_of_lt (by omega), Array.getElem?_toList] at e
    simp only [World.cell?, h3]
    exact e
end Go.Proofs.YtnplcjcbojjecaaDoor
