/-
  No cell of these rows narrows 'for every input' (looked for: loops, veiled, ifaces, maps, wideKeys, modest, calm, conditions, laid).
  DERIVED. THE GIVEN ROWS OF THIS SEAT. 5 by the template 'for every input the law returns true; each argument reads behind the call as it read before'; 0 by the template 'total and deterministic' (their statements: YtlkfjkimnkhelaaTotals.lean).
  GIVEN WITH THE SEED: the statements are not yours to turn. If you find one false, say at which input.
  Laid BY PROGRAM, IN A SANDBOX (cutbox-rows.mjs): the forced cells as the released guide's own fill.sh prints them over the translation 7ed242ab8a3c4cff… (all of the seat's roots in one cut). By AI agents, Wed Nov 11 2026. No macro, syntax, notation, axiom, sorry.
-/
import Derived.Test.YtlkfjkimnkhelaaChecked
import GoSem.Claim
import GoSem.ClaimJoined
import GoSem.ClaimMapViews
import Derived.JoinedTies
import Derived.KernelRfl
namespace Go.Proofs.Ytlkfjkimnkhelaa
/- THE CELL 'sum', in the pinned program and in every row, IS THE sha256 OF THE DUMP (.gsa) THAT YtlkfjkimnkhelaaProg.lean LOADS. Nothing in Lean hashes anything: it is a label: what it is worth is what the hold of that sum in a sandbox is worth. -/
noncomputable def Try.pinned : Pinned := { name := "ytlkfjkimnkhelaa", sum := "7ed242ab8a3c4cff2feabe373989ae98c32e1c12f8a60f9ae4b2006641cbd033", checked := Try.checked }
namespace Rows
def none {H : Type} : Left H := { results := [], args := [] }

/-- 'abutmentlaw51.DiffLines': WHATEVER THE INPUT: true; the input reads as it did. -/
def diffLinesSpec : ChangeSpec := { name := "diffLines", fn := fun _ => fun
  | [d1, d2] => { results := [.lit (.bool true)], args := [d1, d2] }
  | _ => none }
def diffLinesRow : OpenClaim := { program := "ytlkfjkimnkhelaa", sum := "7ed242ab8a3c4cff2feabe373989ae98c32e1c12f8a60f9ae4b2006641cbd033", func := "abutment/abutmentlaw51.DiffLines", spec := "diffLines", unfollowed := true, recurses := true, apart := false }
def DiffLinesSaid : Prop := diffLinesRow.holds Try.pinned (OpenSpec.ofChange diffLinesSpec)

/-- ITS FALSE NEIGHBOUR: 'it returns false'. Refute it at one input. -/
def diffLinesWrong : ChangeSpec := { name := "diffLines", fn := fun _ => fun
  | [d1, d2] => { results := [.lit (.bool false)], args := [d1, d2] }
  | _ => none }
def DiffLinesWrongFalsely : Prop := diffLinesRow.holds Try.pinned (OpenSpec.ofChange diffLinesWrong)

/-- 'abutmentlaw51.DiffApplies': WHATEVER THE INPUT: true; the input reads as it did. -/
def diffAppliesSpec : ChangeSpec := { name := "diffApplies", fn := fun _ => fun
  | [d1, d2] => { results := [.lit (.bool true)], args := [d1, d2] }
  | _ => none }
def diffAppliesRow : OpenClaim := { program := "ytlkfjkimnkhelaa", sum := "7ed242ab8a3c4cff2feabe373989ae98c32e1c12f8a60f9ae4b2006641cbd033", func := "abutment/abutmentlaw51.DiffApplies", spec := "diffApplies", unfollowed := true, recurses := true, apart := false }
def DiffAppliesSaid : Prop := diffAppliesRow.holds Try.pinned (OpenSpec.ofChange diffAppliesSpec)

/-- ITS FALSE NEIGHBOUR: 'it returns false'. Refute it at one input. -/
def diffAppliesWrong : ChangeSpec := { name := "diffApplies", fn := fun _ => fun
  | [d1, d2] => { results := [.lit (.bool false)], args := [d1, d2] }
  | _ => none }
def DiffAppliesWrongFalsely : Prop := diffAppliesRow.holds Try.pinned (OpenSpec.ofChange diffAppliesWrong)

/-- 'abutmentlaw51.DiffBack': WHATEVER THE INPUT: true; the input reads as it did. -/
def diffBackSpec : ChangeSpec := { name := "diffBack", fn := fun _ => fun
  | [d1, d2] => { results := [.lit (.bool true)], args := [d1, d2] }
  | _ => none }
def diffBackRow : OpenClaim := { program := "ytlkfjkimnkhelaa", sum := "7ed242ab8a3c4cff2feabe373989ae98c32e1c12f8a60f9ae4b2006641cbd033", func := "abutment/abutmentlaw51.DiffBack", spec := "diffBack", unfollowed := true, recurses := true, apart := false }
def DiffBackSaid : Prop := diffBackRow.holds Try.pinned (OpenSpec.ofChange diffBackSpec)

/-- ITS FALSE NEIGHBOUR: 'it returns false'. Refute it at one input. -/
def diffBackWrong : ChangeSpec := { name := "diffBack", fn := fun _ => fun
  | [d1, d2] => { results := [.lit (.bool false)], args := [d1, d2] }
  | _ => none }
def DiffBackWrongFalsely : Prop := diffBackRow.holds Try.pinned (OpenSpec.ofChange diffBackWrong)

/-- 'abutmentlaw51.DiffHeads': WHATEVER THE INPUT: true; the input reads as it did. -/
def diffHeadsSpec : ChangeSpec := { name := "diffHeads", fn := fun _ => fun
  | [d1, d2] => { results := [.lit (.bool true)], args := [d1, d2] }
  | _ => none }
def diffHeadsRow : OpenClaim := { program := "ytlkfjkimnkhelaa", sum := "7ed242ab8a3c4cff2feabe373989ae98c32e1c12f8a60f9ae4b2006641cbd033", func := "abutment/abutmentlaw51.DiffHeads", spec := "diffHeads", inPlace := ["internal/abi.NoEscape", "internal/bytealg.MakeNoZero"], unfollowed := true, recurses := true, apart := false }
def DiffHeadsSaid : Prop := diffHeadsRow.holds Try.pinned (OpenSpec.ofChange diffHeadsSpec)

/-- ITS FALSE NEIGHBOUR: 'it returns false'. Refute it at one input. -/
def diffHeadsWrong : ChangeSpec := { name := "diffHeads", fn := fun _ => fun
  | [d1, d2] => { results := [.lit (.bool false)], args := [d1, d2] }
  | _ => none }
def DiffHeadsWrongFalsely : Prop := diffHeadsRow.holds Try.pinned (OpenSpec.ofChange diffHeadsWrong)

/-- 'abutmentlaw20.ViaParses': WHATEVER THE INPUT: true; the input reads as it did. -/
def viaParsesSpec : ChangeSpec := { name := "viaParses", fn := fun _ => fun
  | [d1, d2] => { results := [.lit (.bool true)], args := [d1, d2] }
  | _ => none }
def viaParsesRow : OpenClaim := { program := "ytlkfjkimnkhelaa", sum := "7ed242ab8a3c4cff2feabe373989ae98c32e1c12f8a60f9ae4b2006641cbd033", func := "abutment/abutmentlaw20.ViaParses", spec := "viaParses", inPlace := ["internal/abi.NoEscape", "internal/bytealg.MakeNoZero", "internal/bytealg.IndexByteString", "internal/bytealg.IndexString"], unfollowed := true, recurses := true, named := ["internal/bytealg.MaxLen"], apart := false }
def ViaParsesSaid : Prop := viaParsesRow.holds Try.pinned (OpenSpec.ofChange viaParsesSpec)

/-- ITS FALSE NEIGHBOUR: 'it returns false'. Refute it at one input. -/
def viaParsesWrong : ChangeSpec := { name := "viaParses", fn := fun _ => fun
  | [d1, d2] => { results := [.lit (.bool false)], args := [d1, d2] }
  | _ => none }
def ViaParsesWrongFalsely : Prop := viaParsesRow.holds Try.pinned (OpenSpec.ofChange viaParsesWrong)

/- THE SECOND FORM. 'bulk': how many values and letters a reading holds, each counted each time it is reached (what is shared counts as often as it is met; a slice's spare places count too). A statement '..UptoSaid' is the law's where the arguments, and the package variables that the reading takes, are together of bulk at most 1048576: NARROWER than '..Said'. Prove '..Said' where nothing that the law and all that it calls make is longer than what came in: it says more and counts as full. Else prove '..UptoSaid'. A law counts once. -/
mutual
def uptoBulk {H : Type} : DataW H → Nat
  | .lit (.string bytes) => bytes.length + 1
  | .lit _ => 1
  | .nil => 1
  | .ptr d => uptoBulk d + 1
  | .slice elems spare => uptoBulkAll elems + uptoBulkAll spare + 1
  | .agg parts => uptoBulkAll parts + 1
  | .iface _ d => uptoBulk d + 1
  | .map entries => uptoBulkEntries entries + 1
  | .held _ => 1
def uptoBulkAll {H : Type} : List (DataW H) → Nat
  | [] => 0
  | d :: r => uptoBulk d + uptoBulkAll r
def uptoBulkEntries {H : Type} : List (Lit × DataW H) → Nat
  | [] => 0
  | x :: r => uptoBulkEntry x + uptoBulkEntries r
def uptoBulkEntry {H : Type} : Lit × DataW H → Nat
  | (.string bytes, d) => bytes.length + uptoBulk d + 1
  | (_, d) => uptoBulk d + 1
 end
def uptoSmall : (H : Type) → List (DataW H) → Bool := fun _ ds => decide (uptoBulkAll ds ≤ 1048576)
def OpenSpec.upto (s : _root_.Go.ChangeSpec) : _root_.Go.OpenSpec := { _root_.Go.OpenSpec.ofChange s with cond := some uptoSmall }

/-- 'abutmentlaw51.DiffLines', WHERE WHAT IT READS IS OF BULK AT MOST 1048576: true; the input reads as it did. -/
def diffLinesUptoRow : OpenClaim := { program := "ytlkfjkimnkhelaa", sum := "7ed242ab8a3c4cff2feabe373989ae98c32e1c12f8a60f9ae4b2006641cbd033", func := "abutment/abutmentlaw51.DiffLines", spec := "diffLines", unfollowed := true, recurses := true, apart := false, narrowed := true }
def DiffLinesUptoSaid : Prop := diffLinesUptoRow.holds Try.pinned (OpenSpec.upto diffLinesSpec)

/-- 'abutmentlaw51.DiffApplies', WHERE WHAT IT READS IS OF BULK AT MOST 1048576: true; the input reads as it did. -/
def diffAppliesUptoRow : OpenClaim := { program := "ytlkfjkimnkhelaa", sum := "7ed242ab8a3c4cff2feabe373989ae98c32e1c12f8a60f9ae4b2006641cbd033", func := "abutment/abutmentlaw51.DiffApplies", spec := "diffApplies", unfollowed := true, recurses := true, apart := false, narrowed := true }
def DiffAppliesUptoSaid : Prop := diffAppliesUptoRow.holds Try.pinned (OpenSpec.upto diffAppliesSpec)

/-- 'abutmentlaw51.DiffBack', WHERE WHAT IT READS IS OF BULK AT MOST 1048576: true; the input reads as it did. -/
def diffBackUptoRow : OpenClaim := { program := "ytlkfjkimnkhelaa", sum := "7ed242ab8a3c4cff2feabe373989ae98c32e1c12f8a60f9ae4b2006641cbd033", func := "abutment/abutmentlaw51.DiffBack", spec := "diffBack", unfollowed := true, recurses := true, apart := false, narrowed := true }
def DiffBackUptoSaid : Prop := diffBackUptoRow.holds Try.pinned (OpenSpec.upto diffBackSpec)

/-- 'abutmentlaw51.DiffHeads', WHERE WHAT IT READS IS OF BULK AT MOST 1048576: true; the input reads as it did. -/
def diffHeadsUptoRow : OpenClaim := { program := "ytlkfjkimnkhelaa", sum := "7ed242ab8a3c4cff2feabe373989ae98c32e1c12f8a60f9ae4b2006641cbd033", func := "abutment/abutmentlaw51.DiffHeads", spec := "diffHeads", inPlace := ["internal/abi.NoEscape", "internal/bytealg.MakeNoZero"], unfollowed := true, recurses := true, apart := false, narrowed := true }
def DiffHeadsUptoSaid : Prop := diffHeadsUptoRow.holds Try.pinned (OpenSpec.upto diffHeadsSpec)

/-- 'abutmentlaw20.ViaParses', WHERE WHAT IT READS IS OF BULK AT MOST 1048576: true; the input reads as it did. -/
def viaParsesUptoRow : OpenClaim := { program := "ytlkfjkimnkhelaa", sum := "7ed242ab8a3c4cff2feabe373989ae98c32e1c12f8a60f9ae4b2006641cbd033", func := "abutment/abutmentlaw20.ViaParses", spec := "viaParses", inPlace := ["internal/abi.NoEscape", "internal/bytealg.MakeNoZero", "internal/bytealg.IndexByteString", "internal/bytealg.IndexString"], unfollowed := true, recurses := true, named := ["internal/bytealg.MaxLen"], apart := false, narrowed := true }
def ViaParsesUptoSaid : Prop := viaParsesUptoRow.holds Try.pinned (OpenSpec.upto viaParsesSpec)

end Rows
end Go.Proofs.Ytlkfjkimnkhelaa
