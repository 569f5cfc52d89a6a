import Derived.Test.YtcienfbkcfhfcaaProg
import Derived.Test.YtcienfbkcfhfcaaRd
import Derived.KernelRfl
set_option linter.unusedSimpArgs false
set_option linter.unusedVariables false
namespace Go.Proofs.Ytcienfbkcfhfcaa
open Go.RowKit
def kI : Kd Try.prog 3 Int := Kd.int Try.underlying3 (by kernel_rfl)
def kS : Kd Try.prog 9 ByteArray := Kd.str Try.underlying9 (by kernel_rfl)
def kStep : Kd Try.prog 44 (Int × Int × Int × ByteArray × Unit) :=
  Kd.struct Try.underlying44 (Fk.cons kI (Fk.cons kI (Fk.cons kI (Fk.cons kS Fk.nil)))) 4 (by kernel_rfl)
def kSteps : Kd Try.prog 34 (List (Int × Int × Int × ByteArray × Unit)) := Kd.slice Try.underlying34 (by kernel_rfl) kStep (by decide)
def wf64 (n : Int) : Prop := -9223372036854775808 ≤ n ∧ n ≤ 9223372036854775807
theorem wf64_of {n : Int} (h : (Lit.int .i64 n).wf = true) : wf64 n := by
  simpa [wf64, Lit.wf, IntKind.min, IntKind.max, IntKind.signed, IntKind.bits] using h
theorem kStep_cells {w : World} {k n p : Int} {s : ByteArray} {u : Unit} {cs : List Value} (h : kStep.R w (k, n, p, s, u) cs) : cs = [.int .i64 k, .int .i64 n, .int .i64 p, .string s] ∧ wf64 k ∧ wf64 n ∧ wf64 p ∧ s.size ≤ maxLen := by
  obtain ⟨hl, ⟨h1, w1⟩, ⟨h2, w2⟩, ⟨h3, w3⟩, ⟨h4, w4⟩, _⟩ := h
  match cs, hl with
  | [c0, c1, c2, c3], _ =>
    simp [kI, kS, Kd.int, Kd.str] at h1 h2 h3 h4
    subst h1 h2 h3 h4
    exact ⟨rfl, wf64_of w1, wf64_of w2, wf64_of w3, w4⟩
end Go.Proofs.Ytcienfbkcfhfcaa
