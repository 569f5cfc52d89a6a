import Derived.Test.YtcienfbkcfhfcaaLw
import Derived.Lib.SlBytesRow
import Derived.Laws.IdiomStrings
set_option linter.unusedSimpArgs false
set_option linter.unusedVariables false
namespace Go.Proofs.Ytcienfbkcfhfcaa
open Go.RowKit
section
variable {P : Program} {ops : Array Oper} {rest : List Oper} {a : Act} {w : World} {Q : Exit → Act → World → Prop} {d : Option Tmp} {ty : TypeId} {ps : String} {af : Array Edge} {x y : Operand}
/-- 'string(b)' where b's cells are the bytes l. -/
theorem at_toStr {src dst e : TypeId} (hs : P.underlying src = some (.slice e)) (he : P.underlying e = some (.int .u8)) (hd : P.underlying dst = some .string)
    (b o cap : Nat) (l : List UInt8) (n : Nat) (hn : n = l.length) (hx : a.eval x = .slice (some ⟨b, o, none⟩) n cap) (hc : ∀ j (hj : j < l.length), w.cell? ⟨b, o + j, none⟩ = some (.int .u8 (l[j].toNat : Int)))
    (h : wpList P ops Q rest (a.put d (.string ⟨l.toArray⟩)) w) :
    wpList P ops Q (⟨d, .convert src dst x, ty, ps, af, none⟩ :: rest) a w := by
  subst hn
  refine Great.wpList_runTo rfl _ rfl (.string ⟨l.toArray⟩) w ?_ h
  have hadd : ∀ j, (⟨b, o, none⟩ : Addr).add j = ⟨b, o + j, none⟩ := fun j => Addr.add_mid b o j
  have := run_convert_bytes_back (P := P) w src dst e ⟨b, o, none⟩ cap l hs he hd (fun j hj => by rw [hadd]; exact hc j hj)
  unfold execOp
  simp only [hx, Sem.run_bind, this, Result.andThen_ok, Sem.run_pure]
end
end Go.Proofs.Ytcienfbkcfhfcaa
