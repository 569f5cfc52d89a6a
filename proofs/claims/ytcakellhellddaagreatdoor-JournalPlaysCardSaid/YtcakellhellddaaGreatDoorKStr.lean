import Derived.Test.YtcakellhellddaaGreatDoorRd
import Derived.Test.YtcakellhellddaaGreatDoorStrs
import Derived.KernelRfl
set_option linter.unusedSimpArgs false
set_option linter.unusedVariables false
namespace Go.Proofs.YtcakellhellddaaGreatDoor
open Go.RowKit
def kSt : Kd Tryz.prog 9 ByteArray := Kd.str Tryz.underlying9 (by kernel_rfl)
def kSts : Kd Tryz.prog 50 (List ByteArray) := Kd.slice Tryz.underlying50 (by kernel_rfl) kSt (by decide)
/-- A list of texts that came in. -/
theorem strs_in {w : World} {l : List ByteArray} {v : Value} (h : SlR kSt w l v) : StrsAt w v l ∧ l.length ≤ maxLen ∧ ∀ x ∈ l, x.size ≤ maxLen := by
  obtain ⟨ad, cap, rfl, h2, h3, h4, h5⟩ := h
  have hm : maxLen ≤ 9223372036854775807 := by simp [maxLen]
  have key : ∀ (i : Nat) x, l[i]? = some x → ∃ b o, ad = some ⟨b, o, none⟩ ∧ w.cell? ⟨b, o + i, none⟩ = some (.string x) ∧ x.size ≤ maxLen := fun i x hi => by
    obtain ⟨b, o, cs, e1, e2, e3, e4, e5⟩ := h5 i x hi
    have e4 : cs = [Value.string x] := e4
    subst e4
    have h0 := e3 0 (by simp)
    simp [kSt, Kd.str] at h0
    exact ⟨b, o, e1, h0, e5⟩
  refine ⟨⟨_, _, rfl, h2, by omega, ?_⟩, by omega, fun x hx => ?_⟩
  · intro hl
    obtain ⟨x, hx⟩ : ∃ x, l[0]? = some x := ⟨l[0]'hl, List.getElem?_eq_getElem _⟩
    obtain ⟨b, o, rfl, h0, _⟩ := key 0 x hx
    refine ⟨b, o, rfl, World.block_lt_of_cell? w _ h0, fun j y hj => ?_⟩
    obtain ⟨b', o', hb', hc, _⟩ := key j y hj
    cases hb'
    exact hc
  · obtain ⟨i, hi⟩ := List.getElem?_of_mem hx
    obtain ⟨_, _, _, _, h⟩ := key i x hi
    exact h
end Go.Proofs.YtcakellhellddaaGreatDoor
