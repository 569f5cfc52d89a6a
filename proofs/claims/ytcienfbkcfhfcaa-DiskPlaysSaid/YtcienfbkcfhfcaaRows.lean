/-
  No cell of these rows narrows 'for every input' (looked for: loops, veiled, ifaces, maps, wideKeys, modest, calm, conditions, laid).
  DERIVED. THE GIVEN ROWS OF THIS SEAT. 11 by the template 'for every input the law returns true; each argument reads behind the call as it read before'; 0 by the template 'total and deterministic' (their statements: YtcienfbkcfhfcaaTotals.lean).
  GIVEN WITH THE SEED: the statements are not yours to turn. If you find one false, say at which input.
  Laid BY PROGRAM, IN A SANDBOX (cutbox-rows.mjs): the forced cells as the released guide's own fill.sh prints them over the translation 7cb32fdf453cb0fa… (all of the seat's roots in one cut). By AI agents, Wed Nov 11 2026. No macro, syntax, notation, axiom, sorry.
-/
import Derived.Test.YtcienfbkcfhfcaaChecked
import GoSem.Claim
import GoSem.ClaimJoined
import GoSem.ClaimMapViews
import Derived.JoinedTies
import Derived.KernelRfl
namespace Go.Proofs.Ytcienfbkcfhfcaa
/- THE CELL 'sum', in the pinned program and in every row, IS THE sha256 OF THE DUMP (.gsa) THAT YtcienfbkcfhfcaaProg.lean LOADS. Nothing in Lean hashes anything: it is a label: what it is worth is what the hold of that sum in a sandbox is worth. -/
noncomputable def Try.pinned : Pinned := { name := "ytcienfbkcfhfcaa", sum := "7cb32fdf453cb0fa772d4fd5b05a82ca8c1053f2876e23be39d6f462ba29e683", checked := Try.checked }
namespace Rows
def none {H : Type} : Left H := { results := [], args := [] }

/-- 'annuitylaw07.CrcSums': WHATEVER THE INPUT: true; the input reads as it did. -/
def crcSumsSpec : ChangeSpec := { name := "crcSums", fn := fun _ => fun
  | [d1, d2] => { results := [.lit (.bool true)], args := [d1, d2] }
  | _ => none }
def crcSumsRow : OpenClaim := { program := "ytcienfbkcfhfcaa", sum := "7cb32fdf453cb0fa772d4fd5b05a82ca8c1053f2876e23be39d6f462ba29e683", func := "annuity/annuitylaw07.CrcSums", spec := "crcSums", plainKeys := false, apart := false }
def CrcSumsSaid : Prop := crcSumsRow.holds Try.pinned (OpenSpec.ofChange crcSumsSpec)

/-- ITS FALSE NEIGHBOUR: 'it returns false'. Refute it at one input. -/
def crcSumsWrong : ChangeSpec := { name := "crcSums", fn := fun _ => fun
  | [d1, d2] => { results := [.lit (.bool false)], args := [d1, d2] }
  | _ => none }
def CrcSumsWrongFalsely : Prop := crcSumsRow.holds Try.pinned (OpenSpec.ofChange crcSumsWrong)

/-- 'annuitylaw07.CrcJoins': WHATEVER THE INPUT: true; the input reads as it did. -/
def crcJoinsSpec : ChangeSpec := { name := "crcJoins", fn := fun _ => fun
  | [d1, d2, d3] => { results := [.lit (.bool true)], args := [d1, d2, d3] }
  | _ => none }
def crcJoinsRow : OpenClaim := { program := "ytcienfbkcfhfcaa", sum := "7cb32fdf453cb0fa772d4fd5b05a82ca8c1053f2876e23be39d6f462ba29e683", func := "annuity/annuitylaw07.CrcJoins", spec := "crcJoins", plainKeys := false, apart := false }
def CrcJoinsSaid : Prop := crcJoinsRow.holds Try.pinned (OpenSpec.ofChange crcJoinsSpec)

/-- ITS FALSE NEIGHBOUR: 'it returns false'. Refute it at one input. -/
def crcJoinsWrong : ChangeSpec := { name := "crcJoins", fn := fun _ => fun
  | [d1, d2, d3] => { results := [.lit (.bool false)], args := [d1, d2, d3] }
  | _ => none }
def CrcJoinsWrongFalsely : Prop := crcJoinsRow.holds Try.pinned (OpenSpec.ofChange crcJoinsWrong)

/-- 'annuitylaw07.CrcTurned': WHATEVER THE INPUT: true; the input reads as it did. -/
def crcTurnedSpec : ChangeSpec := { name := "crcTurned", fn := fun _ => fun
  | [d1, d2, d3] => { results := [.lit (.bool true)], args := [d1, d2, d3] }
  | _ => none }
def crcTurnedRow : OpenClaim := { program := "ytcienfbkcfhfcaa", sum := "7cb32fdf453cb0fa772d4fd5b05a82ca8c1053f2876e23be39d6f462ba29e683", func := "annuity/annuitylaw07.CrcTurned", spec := "crcTurned", plainKeys := false, apart := false }
def CrcTurnedSaid : Prop := crcTurnedRow.holds Try.pinned (OpenSpec.ofChange crcTurnedSpec)

/-- ITS FALSE NEIGHBOUR: 'it returns false'. Refute it at one input. -/
def crcTurnedWrong : ChangeSpec := { name := "crcTurned", fn := fun _ => fun
  | [d1, d2, d3] => { results := [.lit (.bool false)], args := [d1, d2, d3] }
  | _ => none }
def CrcTurnedWrongFalsely : Prop := crcTurnedRow.holds Try.pinned (OpenSpec.ofChange crcTurnedWrong)

/-- 'annuitylaw07.CrcOwn': WHATEVER THE INPUT: true; the input reads as it did. -/
def crcOwnSpec : ChangeSpec := { name := "crcOwn", fn := fun _ => fun
  | [d1, d2, d3] => { results := [.lit (.bool true)], args := [d1, d2, d3] }
  | _ => none }
def crcOwnRow : OpenClaim := { program := "ytcienfbkcfhfcaa", sum := "7cb32fdf453cb0fa772d4fd5b05a82ca8c1053f2876e23be39d6f462ba29e683", func := "annuity/annuitylaw07.CrcOwn", spec := "crcOwn", plainKeys := false, apart := false }
def CrcOwnSaid : Prop := crcOwnRow.holds Try.pinned (OpenSpec.ofChange crcOwnSpec)

/-- ITS FALSE NEIGHBOUR: 'it returns false'. Refute it at one input. -/
def crcOwnWrong : ChangeSpec := { name := "crcOwn", fn := fun _ => fun
  | [d1, d2, d3] => { results := [.lit (.bool false)], args := [d1, d2, d3] }
  | _ => none }
def CrcOwnWrongFalsely : Prop := crcOwnRow.holds Try.pinned (OpenSpec.ofChange crcOwnWrong)

/-- 'annuitylaw11.DiskPlays': WHATEVER THE INPUT: true; the input reads as it did. -/
def diskPlaysSpec : ChangeSpec := { name := "diskPlays", fn := fun _ => fun
  | [d1, d2] => { results := [.lit (.bool true)], args := [d1, d2] }
  | _ => none }
def diskPlaysRow : OpenClaim := { program := "ytcienfbkcfhfcaa", sum := "7cb32fdf453cb0fa772d4fd5b05a82ca8c1053f2876e23be39d6f462ba29e683", func := "annuity/annuitylaw11.DiskPlays", spec := "diskPlays", inPlace := ["internal/abi.NoEscape", "internal/bytealg.MakeNoZero"], plainKeys := false, apart := false }
def DiskPlaysSaid : Prop := diskPlaysRow.holds Try.pinned (OpenSpec.ofChange diskPlaysSpec)

/-- ITS FALSE NEIGHBOUR: 'it returns false'. Refute it at one input. -/
def diskPlaysWrong : ChangeSpec := { name := "diskPlays", fn := fun _ => fun
  | [d1, d2] => { results := [.lit (.bool false)], args := [d1, d2] }
  | _ => none }
def DiskPlaysWrongFalsely : Prop := diskPlaysRow.holds Try.pinned (OpenSpec.ofChange diskPlaysWrong)

/-- 'annuitylaw11.DiskTorn': WHATEVER THE INPUT: true; the input reads as it did. -/
def diskTornSpec : ChangeSpec := { name := "diskTorn", fn := fun _ => fun
  | [d1, d2] => { results := [.lit (.bool true)], args := [d1, d2] }
  | _ => none }
def diskTornRow : OpenClaim := { program := "ytcienfbkcfhfcaa", sum := "7cb32fdf453cb0fa772d4fd5b05a82ca8c1053f2876e23be39d6f462ba29e683", func := "annuity/annuitylaw11.DiskTorn", spec := "diskTorn", inPlace := ["internal/abi.NoEscape", "internal/bytealg.MakeNoZero"], plainKeys := false, apart := false }
def DiskTornSaid : Prop := diskTornRow.holds Try.pinned (OpenSpec.ofChange diskTornSpec)

/-- ITS FALSE NEIGHBOUR: 'it returns false'. Refute it at one input. -/
def diskTornWrong : ChangeSpec := { name := "diskTorn", fn := fun _ => fun
  | [d1, d2] => { results := [.lit (.bool false)], args := [d1, d2] }
  | _ => none }
def DiskTornWrongFalsely : Prop := diskTornRow.holds Try.pinned (OpenSpec.ofChange diskTornWrong)

/-- 'annuitylaw11.DiskNone': WHATEVER THE INPUT: true; the input reads as it did. -/
def diskNoneSpec : ChangeSpec := { name := "diskNone", fn := fun _ => fun
  | [d] => { results := [.lit (.bool true)], args := [d] }
  | _ => none }
def diskNoneRow : OpenClaim := { program := "ytcienfbkcfhfcaa", sum := "7cb32fdf453cb0fa772d4fd5b05a82ca8c1053f2876e23be39d6f462ba29e683", func := "annuity/annuitylaw11.DiskNone", spec := "diskNone", inPlace := ["internal/abi.NoEscape", "internal/bytealg.MakeNoZero"], plainKeys := false, apart := false }
def DiskNoneSaid : Prop := diskNoneRow.holds Try.pinned (OpenSpec.ofChange diskNoneSpec)

/-- ITS FALSE NEIGHBOUR: 'it returns false'. Refute it at one input. -/
def diskNoneWrong : ChangeSpec := { name := "diskNone", fn := fun _ => fun
  | [d] => { results := [.lit (.bool false)], args := [d] }
  | _ => none }
def DiskNoneWrongFalsely : Prop := diskNoneRow.holds Try.pinned (OpenSpec.ofChange diskNoneWrong)

/-- 'annuitylaw26.EntryDiffers': WHATEVER THE INPUT: true; the input reads as it did. -/
def entryDiffersSpec : ChangeSpec := { name := "entryDiffers", fn := fun _ => fun
  | [d1, d2, d3] => { results := [.lit (.bool true)], args := [d1, d2, d3] }
  | _ => none }
def entryDiffersRow : OpenClaim := { program := "ytcienfbkcfhfcaa", sum := "7cb32fdf453cb0fa772d4fd5b05a82ca8c1053f2876e23be39d6f462ba29e683", func := "annuity/annuitylaw26.EntryDiffers", spec := "entryDiffers", unfollowed := true, recurses := true, plainKeys := false, apart := false }
def EntryDiffersSaid : Prop := entryDiffersRow.holds Try.pinned (OpenSpec.ofChange entryDiffersSpec)

/-- ITS FALSE NEIGHBOUR: 'it returns false'. Refute it at one input. -/
def entryDiffersWrong : ChangeSpec := { name := "entryDiffers", fn := fun _ => fun
  | [d1, d2, d3] => { results := [.lit (.bool false)], args := [d1, d2, d3] }
  | _ => none }
def EntryDiffersWrongFalsely : Prop := entryDiffersRow.holds Try.pinned (OpenSpec.ofChange entryDiffersWrong)

/-- 'annuitylaw26.EntryAdds': WHATEVER THE INPUT: true; the input reads as it did. -/
def entryAddsSpec : ChangeSpec := { name := "entryAdds", fn := fun _ => fun
  | [d1, d2, d3] => { results := [.lit (.bool true)], args := [d1, d2, d3] }
  | _ => none }
def entryAddsRow : OpenClaim := { program := "ytcienfbkcfhfcaa", sum := "7cb32fdf453cb0fa772d4fd5b05a82ca8c1053f2876e23be39d6f462ba29e683", func := "annuity/annuitylaw26.EntryAdds", spec := "entryAdds", unfollowed := true, recurses := true, plainKeys := false, apart := false }
def EntryAddsSaid : Prop := entryAddsRow.holds Try.pinned (OpenSpec.ofChange entryAddsSpec)

/-- ITS FALSE NEIGHBOUR: 'it returns false'. Refute it at one input. -/
def entryAddsWrong : ChangeSpec := { name := "entryAdds", fn := fun _ => fun
  | [d1, d2, d3] => { results := [.lit (.bool false)], args := [d1, d2, d3] }
  | _ => none }
def EntryAddsWrongFalsely : Prop := entryAddsRow.holds Try.pinned (OpenSpec.ofChange entryAddsWrong)

/-- 'annuitylaw26.EntryChain': WHATEVER THE INPUT: true; the input reads as it did. -/
def entryChainSpec : ChangeSpec := { name := "entryChain", fn := fun _ => fun
  | [d1, d2, d3] => { results := [.lit (.bool true)], args := [d1, d2, d3] }
  | _ => none }
def entryChainRow : OpenClaim := { program := "ytcienfbkcfhfcaa", sum := "7cb32fdf453cb0fa772d4fd5b05a82ca8c1053f2876e23be39d6f462ba29e683", func := "annuity/annuitylaw26.EntryChain", spec := "entryChain", unfollowed := true, recurses := true, plainKeys := false, apart := false }
def EntryChainSaid : Prop := entryChainRow.holds Try.pinned (OpenSpec.ofChange entryChainSpec)

/-- ITS FALSE NEIGHBOUR: 'it returns false'. Refute it at one input. -/
def entryChainWrong : ChangeSpec := { name := "entryChain", fn := fun _ => fun
  | [d1, d2, d3] => { results := [.lit (.bool false)], args := [d1, d2, d3] }
  | _ => none }
def EntryChainWrongFalsely : Prop := entryChainRow.holds Try.pinned (OpenSpec.ofChange entryChainWrong)

/-- 'annuitylaw26.EntryOrder': WHATEVER THE INPUT: true; the input reads as it did. -/
def entryOrderSpec : ChangeSpec := { name := "entryOrder", fn := fun _ => fun
  | [d1, d2] => { results := [.lit (.bool true)], args := [d1, d2] }
  | _ => none }
def entryOrderRow : OpenClaim := { program := "ytcienfbkcfhfcaa", sum := "7cb32fdf453cb0fa772d4fd5b05a82ca8c1053f2876e23be39d6f462ba29e683", func := "annuity/annuitylaw26.EntryOrder", spec := "entryOrder", unfollowed := true, recurses := true, plainKeys := false, apart := false }
def EntryOrderSaid : Prop := entryOrderRow.holds Try.pinned (OpenSpec.ofChange entryOrderSpec)

/-- ITS FALSE NEIGHBOUR: 'it returns false'. Refute it at one input. -/
def entryOrderWrong : ChangeSpec := { name := "entryOrder", fn := fun _ => fun
  | [d1, d2] => { results := [.lit (.bool false)], args := [d1, d2] }
  | _ => none }
def EntryOrderWrongFalsely : Prop := entryOrderRow.holds Try.pinned (OpenSpec.ofChange entryOrderWrong)

/- THE SECOND FORM. 'bulk': how many values and letters a reading holds, each counted each time it is reached (what is shared counts as often as it is met; a slice's spare places count too). A statement '..UptoSaid' is the law's where the arguments, and the package variables that the reading takes, are together of bulk at most 1048576: NARROWER than '..Said'. Prove '..Said' where nothing that the law and all that it calls make is longer than what came in: it says more and counts as full. Else prove '..UptoSaid'. A law counts once. -/
mutual
def uptoBulk {H : Type} : DataW H → Nat
  | .lit (.string bytes) => bytes.length + 1
  | .lit _ => 1
  | .nil => 1
  | .ptr d => uptoBulk d + 1
  | .slice elems spare => uptoBulkAll elems + uptoBulkAll spare + 1
  | .agg parts => uptoBulkAll parts + 1
  | .iface _ d => uptoBulk d + 1
  | .map entries => uptoBulkEntries entries + 1
  | .held _ => 1
def uptoBulkAll {H : Type} : List (DataW H) → Nat
  | [] => 0
  | d :: r => uptoBulk d + uptoBulkAll r
def uptoBulkEntries {H : Type} : List (Lit × DataW H) → Nat
  | [] => 0
  | x :: r => uptoBulkEntry x + uptoBulkEntries r
def uptoBulkEntry {H : Type} : Lit × DataW H → Nat
  | (.string bytes, d) => bytes.length + uptoBulk d + 1
  | (_, d) => uptoBulk d + 1
 end
def uptoSmall : (H : Type) → List (DataW H) → Bool := fun _ ds => decide (uptoBulkAll ds ≤ 1048576)
def OpenSpec.upto (s : _root_.Go.ChangeSpec) : _root_.Go.OpenSpec := { _root_.Go.OpenSpec.ofChange s with cond := some uptoSmall }

/-- 'annuitylaw07.CrcSums', WHERE WHAT IT READS IS OF BULK AT MOST 1048576: true; the input reads as it did. -/
def crcSumsUptoRow : OpenClaim := { program := "ytcienfbkcfhfcaa", sum := "7cb32fdf453cb0fa772d4fd5b05a82ca8c1053f2876e23be39d6f462ba29e683", func := "annuity/annuitylaw07.CrcSums", spec := "crcSums", plainKeys := false, apart := false, narrowed := true }
def CrcSumsUptoSaid : Prop := crcSumsUptoRow.holds Try.pinned (OpenSpec.upto crcSumsSpec)

/-- 'annuitylaw07.CrcJoins', WHERE WHAT IT READS IS OF BULK AT MOST 1048576: true; the input reads as it did. -/
def crcJoinsUptoRow : OpenClaim := { program := "ytcienfbkcfhfcaa", sum := "7cb32fdf453cb0fa772d4fd5b05a82ca8c1053f2876e23be39d6f462ba29e683", func := "annuity/annuitylaw07.CrcJoins", spec := "crcJoins", plainKeys := false, apart := false, narrowed := true }
def CrcJoinsUptoSaid : Prop := crcJoinsUptoRow.holds Try.pinned (OpenSpec.upto crcJoinsSpec)

/-- 'annuitylaw07.CrcTurned', WHERE WHAT IT READS IS OF BULK AT MOST 1048576: true; the input reads as it did. -/
def crcTurnedUptoRow : OpenClaim := { program := "ytcienfbkcfhfcaa", sum := "7cb32fdf453cb0fa772d4fd5b05a82ca8c1053f2876e23be39d6f462ba29e683", func := "annuity/annuitylaw07.CrcTurned", spec := "crcTurned", plainKeys := false, apart := false, narrowed := true }
def CrcTurnedUptoSaid : Prop := crcTurnedUptoRow.holds Try.pinned (OpenSpec.upto crcTurnedSpec)

/-- 'annuitylaw07.CrcOwn', WHERE WHAT IT READS IS OF BULK AT MOST 1048576: true; the input reads as it did. -/
def crcOwnUptoRow : OpenClaim := { program := "ytcienfbkcfhfcaa", sum := "7cb32fdf453cb0fa772d4fd5b05a82ca8c1053f2876e23be39d6f462ba29e683", func := "annuity/annuitylaw07.CrcOwn", spec := "crcOwn", plainKeys := false, apart := false, narrowed := true }
def CrcOwnUptoSaid : Prop := crcOwnUptoRow.holds Try.pinned (OpenSpec.upto crcOwnSpec)

/-- 'annuitylaw11.DiskPlays', WHERE WHAT IT READS IS OF BULK AT MOST 1048576: true; the input reads as it did. -/
def diskPlaysUptoRow : OpenClaim := { program := "ytcienfbkcfhfcaa", sum := "7cb32fdf453cb0fa772d4fd5b05a82ca8c1053f2876e23be39d6f462ba29e683", func := "annuity/annuitylaw11.DiskPlays", spec := "diskPlays", inPlace := ["internal/abi.NoEscape", "internal/bytealg.MakeNoZero"], plainKeys := false, apart := false, narrowed := true }
def DiskPlaysUptoSaid : Prop := diskPlaysUptoRow.holds Try.pinned (OpenSpec.upto diskPlaysSpec)

/-- 'annuitylaw11.DiskTorn', WHERE WHAT IT READS IS OF BULK AT MOST 1048576: true; the input reads as it did. -/
def diskTornUptoRow : OpenClaim := { program := "ytcienfbkcfhfcaa", sum := "7cb32fdf453cb0fa772d4fd5b05a82ca8c1053f2876e23be39d6f462ba29e683", func := "annuity/annuitylaw11.DiskTorn", spec := "diskTorn", inPlace := ["internal/abi.NoEscape", "internal/bytealg.MakeNoZero"], plainKeys := false, apart := false, narrowed := true }
def DiskTornUptoSaid : Prop := diskTornUptoRow.holds Try.pinned (OpenSpec.upto diskTornSpec)

/-- 'annuitylaw11.DiskNone', WHERE WHAT IT READS IS OF BULK AT MOST 1048576: true; the input reads as it did. -/
def diskNoneUptoRow : OpenClaim := { program := "ytcienfbkcfhfcaa", sum := "7cb32fdf453cb0fa772d4fd5b05a82ca8c1053f2876e23be39d6f462ba29e683", func := "annuity/annuitylaw11.DiskNone", spec := "diskNone", inPlace := ["internal/abi.NoEscape", "internal/bytealg.MakeNoZero"], plainKeys := false, apart := false, narrowed := true }
def DiskNoneUptoSaid : Prop := diskNoneUptoRow.holds Try.pinned (OpenSpec.upto diskNoneSpec)

/-- 'annuitylaw26.EntryDiffers', WHERE WHAT IT READS IS OF BULK AT MOST 1048576: true; the input reads as it did. -/
def entryDiffersUptoRow : OpenClaim := { program := "ytcienfbkcfhfcaa", sum := "7cb32fdf453cb0fa772d4fd5b05a82ca8c1053f2876e23be39d6f462ba29e683", func := "annuity/annuitylaw26.EntryDiffers", spec := "entryDiffers", unfollowed := true, recurses := true, plainKeys := false, apart := false, narrowed := true }
def EntryDiffersUptoSaid : Prop := entryDiffersUptoRow.holds Try.pinned (OpenSpec.upto entryDiffersSpec)

/-- 'annuitylaw26.EntryAdds', WHERE WHAT IT READS IS OF BULK AT MOST 1048576: true; the input reads as it did. -/
def entryAddsUptoRow : OpenClaim := { program := "ytcienfbkcfhfcaa", sum := "7cb32fdf453cb0fa772d4fd5b05a82ca8c1053f2876e23be39d6f462ba29e683", func := "annuity/annuitylaw26.EntryAdds", spec := "entryAdds", unfollowed := true, recurses := true, plainKeys := false, apart := false, narrowed := true }
def EntryAddsUptoSaid : Prop := entryAddsUptoRow.holds Try.pinned (OpenSpec.upto entryAddsSpec)

/-- 'annuitylaw26.EntryChain', WHERE WHAT IT READS IS OF BULK AT MOST 1048576: true; the input reads as it did. -/
def entryChainUptoRow : OpenClaim := { program := "ytcienfbkcfhfcaa", sum := "7cb32fdf453cb0fa772d4fd5b05a82ca8c1053f2876e23be39d6f462ba29e683", func := "annuity/annuitylaw26.EntryChain", spec := "entryChain", unfollowed := true, recurses := true, plainKeys := false, apart := false, narrowed := true }
def EntryChainUptoSaid : Prop := entryChainUptoRow.holds Try.pinned (OpenSpec.upto entryChainSpec)

/-- 'annuitylaw26.EntryOrder', WHERE WHAT IT READS IS OF BULK AT MOST 1048576: true; the input reads as it did. -/
def entryOrderUptoRow : OpenClaim := { program := "ytcienfbkcfhfcaa", sum := "7cb32fdf453cb0fa772d4fd5b05a82ca8c1053f2876e23be39d6f462ba29e683", func := "annuity/annuitylaw26.EntryOrder", spec := "entryOrder", unfollowed := true, recurses := true, plainKeys := false, apart := false, narrowed := true }
def EntryOrderUptoSaid : Prop := entryOrderUptoRow.holds Try.pinned (OpenSpec.upto entryOrderSpec)

end Rows
end Go.Proofs.Ytcienfbkcfhfcaa
