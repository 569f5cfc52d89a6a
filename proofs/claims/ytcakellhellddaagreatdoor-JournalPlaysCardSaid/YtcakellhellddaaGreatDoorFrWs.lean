import Derived.Test.YtcakellhellddaaGreatDoorFrMake2
import Derived.Shelf.Strings.Builder1
set_option linter.unusedSimpArgs false
set_option linter.unusedVariables false
namespace Go.Proofs.YtcakellhellddaaGreatDoor
open Go.RowKit
/-- A builder that the call made: its block b, its bytes. -/
def BuildAt (w : World) (B b : Nat) (l : List UInt8) : Prop := Lib.IsBuilder 117 5 B b (Lib.byteCells l) w
theorem BuildAt.new (w : World) : BuildAt (w.alloc (.cells #[.pointer none, .slice none 0 0] 117)) w.heap.size w.heap.size [] := Lib.fresh_isBuilder _ _ _
theorem BuildAt.below {w w' : World} {B b : Nat} {l : List UInt8} (h : BuildAt w B b l) (hb : Below w.heap.size w w') : BuildAt w' B b l := by
  have hA : ∀ p, Lib.BuilderAt 117 5 B b p (Lib.byteCells l) w → Lib.BuilderAt 117 5 B b p (Lib.byteCells l) w' := fun p h => by
    obtain ⟨h1, v, h2, h3, h4⟩ := h
    exact ⟨h1, v, (hb.block b (lt_of_block h2)).trans h2, owns_below h3 hb (Nat.le_refl _), h4⟩
  exact h.imp (hA _) (hA _)
theorem wstr_any (B b : Nat) (l : List UInt8) (s : ByteArray) (w : World) (h : BuildAt w B b l) (hlen : l.length + s.size ≤ 140737488355328) (hBw : B ≤ w.heap.size) :
    Calls Tryz.prog 76 #[.pointer (some ⟨b, 0, none⟩), .string s] w fun e w' => e = .returned (.tuple #[.int .i64 s.size, .nilIface]) ∧ BuildAt w' B b (l ++ s.data.toList) ∧ Below B w w' := by
  refine (Any.Builder_WriteString { Tryz.lays105 with } Tryz.Builder_Extra_105 B b _ s w h (by rw [Lib.byteCells_length]; exact hlen) hBw).mono ?_
  rintro e w' ⟨rfl, h1, h2⟩
  refine ⟨rfl, Or.inr ?_, h2⟩
  have : Lib.byteCells (l ++ s.data.toList) = Lib.byteCells l ++ Lib.strCells s := by simp [Lib.byteCells, Lib.strCells]
  rw [this]; exact h1
theorem bstr_any (B b : Nat) (l : List UInt8) (w : World) (h : BuildAt w B b l) (hBw : B ≤ w.heap.size) :
    Calls Tryz.prog 77 #[.pointer (some ⟨b, 0, none⟩)] w fun e w' => e = .returned (.string ⟨l.toArray⟩) ∧ Below B w w' :=
  Any.Builder_String_any { Tryz.lays105 with } Tryz.Builder_Extra_105 B b l w h hBw
end Go.Proofs.YtcakellhellddaaGreatDoor
