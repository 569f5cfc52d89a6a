import Derived.Test.YtcakellhellddaaGreatDoorSteps
import Derived.Test.YtcakellhellddaaGreatDoorTy
set_option linter.unusedSimpArgs false
set_option linter.unusedVariables false
namespace Go.Proofs.YtcakellhellddaaGreatDoor
open Go.RowKit
/-- A slice of texts. -/
def StrsAt (w : World) (v : Value) (l : List ByteArray) : Prop := ∃ a c, v = .slice a l.length c ∧ l.length ≤ c ∧ l.length ≤ 9223372036854775807 ∧
    (0 < l.length → ∃ b o, a = some ⟨b, o, none⟩ ∧ b < w.heap.size ∧ ∀ (j : Nat) x, l[j]? = some x → w.cell? ⟨b, o + j, none⟩ = some (.string x))
theorem StrsAt.below {w w' : World} {v : Value} {l : List ByteArray} (h : StrsAt w v l) (hb : Below w.heap.size w w') : StrsAt w' v l := by
  obtain ⟨a, c, h1, h2, h3, h4⟩ := h
  refine ⟨a, c, h1, h2, h3, fun hl => ?_⟩
  obtain ⟨b, o, e1, e2, e3⟩ := h4 hl
  exact ⟨b, o, e1, Nat.lt_of_lt_of_le e2 hb.size, fun j x hj => (hb.cell (p := ⟨b, o + j, none⟩) e2).trans (e3 j x hj)⟩
theorem StrsAt.nil (w : World) : StrsAt w (.slice none 0 0) [] := ⟨_, _, rfl, by simp, by simp, fun h => by simp at h⟩
theorem StrsAt.out {w : World} {v : Value} {l : List ByteArray} (h : StrsAt w v l) : ∃ a c, v = .slice a l.length c ∧ l.length ≤ 9223372036854775807 ∧
    (0 < l.length → ∃ b o, a = some ⟨b, o, none⟩ ∧ b < w.heap.size ∧ ∀ (j : Nat) x, l[j]? = some x → w.cell? ⟨b, o + j, none⟩ = some (.string x)) := by
  obtain ⟨a, c, h1, h2, h3, h4⟩ := h
  exact ⟨a, c, h1, h3, h4⟩
/-- A row of texts that a call owns. -/
theorem StrsAt.own {w : World} {base n : Nat} {t : TypeId} {v : Value} {l : List ByteArray} (h : w.ownsRow base t 1 v n (l.map Value.string)) (hn : n = l.length) (hm : n ≤ 9223372036854775807) : StrsAt w v l := by
  subst hn
  rcases h.2 with ⟨rfl, h0⟩ | ⟨g, cap, cur, rfl, h2, h3, h4, h5, h6, h7⟩
  · exact ⟨none, 0, by rw [h0], by omega, hm, fun h => by omega⟩
  · refine ⟨_, _, rfl, h4, hm, fun _ => ⟨g, 0, rfl, lt_of_block h3, fun j x hj => ?_⟩⟩
    rw [Nat.zero_add]
    have hlt : j < l.length := by
      rcases Nat.lt_or_ge j l.length with h | h
      · exact h
      · rw [List.getElem?_eq_none h] at hj; cases hj
    have e : (cur.toList.take (l.length * 1))[j]? = some (Value.string x) := by rw [h7, List.getElem?_map, hj]; rfl
    rw [List.getElem?_take_of_lt (by omega), Array.getElem?_toList] at e
    simp only [World.cell?, h3]
    exact e
end Go.Proofs.YtcakellhellddaaGreatDoor
