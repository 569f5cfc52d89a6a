/-
  No cell of these rows narrows 'for every input' (looked for: loops, veiled, ifaces, maps, wideKeys, modest, calm, conditions, laid).
  DERIVED. THE GIVEN ROWS OF THIS SEAT. 4 by the template 'for every input the law returns true; each argument reads behind the call as it read before'; 0 by the template 'total and deterministic' (their statements: YtimiehnknehagaaTotals.lean).
  GIVEN WITH THE SEED: the statements are not yours to turn. If you find one false, say at which input.
  Laid BY PROGRAM, IN A SANDBOX (cutbox-rows.mjs): the forced cells as the released guide's own fill.sh prints them over the translation 8dc362a31c49ea78… (all of the seat's roots in one cut). By AI agents, Wed Nov 11 2026. No macro, syntax, notation, axiom, sorry.
-/
import Derived.Test.YtimiehnknehagaaChecked
import GoSem.Claim
import GoSem.ClaimJoined
import GoSem.ClaimMapViews
import Derived.JoinedTies
import Derived.KernelRfl
namespace Go.Proofs.Ytimiehnknehagaa
/- THE CELL 'sum', in the pinned program and in every row, IS THE sha256 OF THE DUMP (.gsa) THAT YtimiehnknehagaaProg.lean LOADS. Nothing in Lean hashes anything: it is a label: what it is worth is what the hold of that sum in a sandbox is worth. -/
noncomputable def Try.pinned : Pinned := { name := "ytimiehnknehagaa", sum := "8dc362a31c49ea786bb471d3cde2ed21de47d084a57c11402727fff4207ef6c5", checked := Try.checked }
namespace Rows
def none {H : Type} : Left H := { results := [], args := [] }

/-- 'annuitylaw26.EntryDiffers': WHATEVER THE INPUT: true; the input reads as it did. -/
def entryDiffersSpec : ChangeSpec := { name := "entryDiffers", fn := fun _ => fun
  | [d1, d2, d3] => { results := [.lit (.bool true)], args := [d1, d2, d3] }
  | _ => none }
def entryDiffersRow : OpenClaim := { program := "ytimiehnknehagaa", sum := "8dc362a31c49ea786bb471d3cde2ed21de47d084a57c11402727fff4207ef6c5", func := "annuity/annuitylaw26.EntryDiffers", spec := "entryDiffers", unfollowed := true, recurses := true, plainKeys := false, apart := false }
def EntryDiffersSaid : Prop := entryDiffersRow.holds Try.pinned (OpenSpec.ofChange entryDiffersSpec)

/-- ITS FALSE NEIGHBOUR: 'it returns false'. Refute it at one input. -/
def entryDiffersWrong : ChangeSpec := { name := "entryDiffers", fn := fun _ => fun
  | [d1, d2, d3] => { results := [.lit (.bool false)], args := [d1, d2, d3] }
  | _ => none }
def EntryDiffersWrongFalsely : Prop := entryDiffersRow.holds Try.pinned (OpenSpec.ofChange entryDiffersWrong)

/-- 'annuitylaw26.EntryAdds': WHATEVER THE INPUT: true; the input reads as it did. -/
def entryAddsSpec : ChangeSpec := { name := "entryAdds", fn := fun _ => fun
  | [d1, d2, d3] => { results := [.lit (.bool true)], args := [d1, d2, d3] }
  | _ => none }
def entryAddsRow : OpenClaim := { program := "ytimiehnknehagaa", sum := "8dc362a31c49ea786bb471d3cde2ed21de47d084a57c11402727fff4207ef6c5", func := "annuity/annuitylaw26.EntryAdds", spec := "entryAdds", unfollowed := true, recurses := true, plainKeys := false, apart := false }
def EntryAddsSaid : Prop := entryAddsRow.holds Try.pinned (OpenSpec.ofChange entryAddsSpec)

/-- ITS FALSE NEIGHBOUR: 'it returns false'. Refute it at one input. -/
def entryAddsWrong : ChangeSpec := { name := "entryAdds", fn := fun _ => fun
  | [d1, d2, d3] => { results := [.lit (.bool false)], args := [d1, d2, d3] }
  | _ => none }
def EntryAddsWrongFalsely : Prop := entryAddsRow.holds Try.pinned (OpenSpec.ofChange entryAddsWrong)

/-- 'annuitylaw26.EntryChain': WHATEVER THE INPUT: true; the input reads as it did. -/
def entryChainSpec : ChangeSpec := { name := "entryChain", fn := fun _ => fun
  | [d1, d2, d3] => { results := [.lit (.bool true)], args := [d1, d2, d3] }
  | _ => none }
def entryChainRow : OpenClaim := { program := "ytimiehnknehagaa", sum := "8dc362a31c49ea786bb471d3cde2ed21de47d084a57c11402727fff4207ef6c5", func := "annuity/annuitylaw26.EntryChain", spec := "entryChain", unfollowed := true, recurses := true, plainKeys := false, apart := false }
def EntryChainSaid : Prop := entryChainRow.holds Try.pinned (OpenSpec.ofChange entryChainSpec)

/-- ITS FALSE NEIGHBOUR: 'it returns false'. Refute it at one input. -/
def entryChainWrong : ChangeSpec := { name := "entryChain", fn := fun _ => fun
  | [d1, d2, d3] => { results := [.lit (.bool false)], args := [d1, d2, d3] }
  | _ => none }
def EntryChainWrongFalsely : Prop := entryChainRow.holds Try.pinned (OpenSpec.ofChange entryChainWrong)

/-- 'annuitylaw26.EntryOrder': WHATEVER THE INPUT: true; the input reads as it did. -/
def entryOrderSpec : ChangeSpec := { name := "entryOrder", fn := fun _ => fun
  | [d1, d2] => { results := [.lit (.bool true)], args := [d1, d2] }
  | _ => none }
def entryOrderRow : OpenClaim := { program := "ytimiehnknehagaa", sum := "8dc362a31c49ea786bb471d3cde2ed21de47d084a57c11402727fff4207ef6c5", func := "annuity/annuitylaw26.EntryOrder", spec := "entryOrder", unfollowed := true, recurses := true, plainKeys := false, apart := false }
def EntryOrderSaid : Prop := entryOrderRow.holds Try.pinned (OpenSpec.ofChange entryOrderSpec)

/-- ITS FALSE NEIGHBOUR: 'it returns false'. Refute it at one input. -/
def entryOrderWrong : ChangeSpec := { name := "entryOrder", fn := fun _ => fun
  | [d1, d2] => { results := [.lit (.bool false)], args := [d1, d2] }
  | _ => none }
def EntryOrderWrongFalsely : Prop := entryOrderRow.holds Try.pinned (OpenSpec.ofChange entryOrderWrong)

/- THE SECOND FORM. 'bulk': how many values and letters a reading holds, each counted each time it is reached (what is shared counts as often as it is met; a slice's spare places count too). A statement '..UptoSaid' is the law's where the arguments, and the package variables that the reading takes, are together of bulk at most 1048576: NARROWER than '..Said'. Prove '..Said' where nothing that the law and all that it calls make is longer than what came in: it says more and counts as full. Else prove '..UptoSaid'. A law counts once. -/
mutual
def uptoBulk {H : Type} : DataW H → Nat
  | .lit (.string bytes) => bytes.length + 1
  | .lit _ => 1
  | .nil => 1
  | .ptr d => uptoBulk d + 1
  | .slice elems spare => uptoBulkAll elems + uptoBulkAll spare + 1
  | .agg parts => uptoBulkAll parts + 1
  | .iface _ d => uptoBulk d + 1
  | .map entries => uptoBulkEntries entries + 1
  | .held _ => 1
def uptoBulkAll {H : Type} : List (DataW H) → Nat
  | [] => 0
  | d :: r => uptoBulk d + uptoBulkAll r
def uptoBulkEntries {H : Type} : List (Lit × DataW H) → Nat
  | [] => 0
  | x :: r => uptoBulkEntry x + uptoBulkEntries r
def uptoBulkEntry {H : Type} : Lit × DataW H → Nat
  | (.string bytes, d) => bytes.length + uptoBulk d + 1
  | (_, d) => uptoBulk d + 1
 end
def uptoSmall : (H : Type) → List (DataW H) → Bool := fun _ ds => decide (uptoBulkAll ds ≤ 1048576)
def OpenSpec.upto (s : _root_.Go.ChangeSpec) : _root_.Go.OpenSpec := { _root_.Go.OpenSpec.ofChange s with cond := some uptoSmall }

/-- 'annuitylaw26.EntryDiffers', WHERE WHAT IT READS IS OF BULK AT MOST 1048576: true; the input reads as it did. -/
def entryDiffersUptoRow : OpenClaim := { program := "ytimiehnknehagaa", sum := "8dc362a31c49ea786bb471d3cde2ed21de47d084a57c11402727fff4207ef6c5", func := "annuity/annuitylaw26.EntryDiffers", spec := "entryDiffers", unfollowed := true, recurses := true, plainKeys := false, apart := false, narrowed := true }
def EntryDiffersUptoSaid : Prop := entryDiffersUptoRow.holds Try.pinned (OpenSpec.upto entryDiffersSpec)

/-- 'annuitylaw26.EntryAdds', WHERE WHAT IT READS IS OF BULK AT MOST 1048576: true; the input reads as it did. -/
def entryAddsUptoRow : OpenClaim := { program := "ytimiehnknehagaa", sum := "8dc362a31c49ea786bb471d3cde2ed21de47d084a57c11402727fff4207ef6c5", func := "annuity/annuitylaw26.EntryAdds", spec := "entryAdds", unfollowed := true, recurses := true, plainKeys := false, apart := false, narrowed := true }
def EntryAddsUptoSaid : Prop := entryAddsUptoRow.holds Try.pinned (OpenSpec.upto entryAddsSpec)

/-- 'annuitylaw26.EntryChain', WHERE WHAT IT READS IS OF BULK AT MOST 1048576: true; the input reads as it did. -/
def entryChainUptoRow : OpenClaim := { program := "ytimiehnknehagaa", sum := "8dc362a31c49ea786bb471d3cde2ed21de47d084a57c11402727fff4207ef6c5", func := "annuity/annuitylaw26.EntryChain", spec := "entryChain", unfollowed := true, recurses := true, plainKeys := false, apart := false, narrowed := true }
def EntryChainUptoSaid : Prop := entryChainUptoRow.holds Try.pinned (OpenSpec.upto entryChainSpec)

/-- 'annuitylaw26.EntryOrder', WHERE WHAT IT READS IS OF BULK AT MOST 1048576: true; the input reads as it did. -/
def entryOrderUptoRow : OpenClaim := { program := "ytimiehnknehagaa", sum := "8dc362a31c49ea786bb471d3cde2ed21de47d084a57c11402727fff4207ef6c5", func := "annuity/annuitylaw26.EntryOrder", spec := "entryOrder", unfollowed := true, recurses := true, plainKeys := false, apart := false, narrowed := true }
def EntryOrderUptoSaid : Prop := entryOrderUptoRow.holds Try.pinned (OpenSpec.upto entryOrderSpec)

end Rows
end Go.Proofs.Ytimiehnknehagaa
