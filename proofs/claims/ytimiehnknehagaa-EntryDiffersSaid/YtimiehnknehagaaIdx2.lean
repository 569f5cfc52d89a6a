import Derived.Test.YtimiehnknehagaaRowsK
set_option linter.unusedSimpArgs false
set_option linter.unusedVariables false
namespace Go.Proofs.Ytimiehnknehagaa
open Go.RowKit
/-- An array of two, by value, at a place. -/
theorem run_index2 {P : Program} {T e : TypeId} {d : TypeDesc} {i : TypeInfo} (hT : P.underlying T = some (.array 2 e)) (he : P.underlying e = some d) (hd : (match d with | .array _ _ | .struct _ => true | _ => false) = false) (hi : P.info? e = some i) (h1 : i.size = 1) (a b : Value) (w : World) :
    (Instr.index T (.agg #[a, b]) (.int .i64 0)).run P w = .ok a w ∧ (Instr.index T (.agg #[a, b]) (.int .i64 1)).run P w = .ok b w := by
  have hA : (isAgg e).run P w = .ok false w := by
    cases d <;> simp_all [isAgg, run_underlying he]
  have hS : (sizeOf e).run P w = .ok 1 w := by simp [sizeOf, typeInfo, hi, h1]
  constructor
  · simp [Instr.index, asIntOf, run_underlying hT, part, hA, hS, Result.andThen]
  · simp [Instr.index, asIntOf, run_underlying hT, part, hA, hS, Result.andThen]
end Go.Proofs.Ytimiehnknehagaa
