/-
  No cell of these rows narrows 'for every input' (looked for: loops, veiled, ifaces, maps, wideKeys, modest, calm, conditions, laid).
  DERIVED. THE GIVEN ROWS OF THIS SEAT. 6 by the template 'for every input the law returns true; each argument reads behind the call as it read before'; 0 by the template 'total and deterministic' (their statements: YtnfidlgiaaeleaaTotals.lean).
  GIVEN WITH THE SEED: the statements are not yours to turn. If you find one false, say at which input.
  Laid BY PROGRAM, IN A SANDBOX (cutbox-rows.mjs): the forced cells as the released guide's own fill.sh prints them over the translation e285325534118c36… (all of the seat's roots in one cut). By AI agents, Wed Nov 11 2026. No macro, syntax, notation, axiom, sorry.
-/
import Derived.Test.YtnfidlgiaaeleaaChecked
import GoSem.Claim
import GoSem.ClaimJoined
import GoSem.ClaimMapViews
import Derived.JoinedTies
import Derived.KernelRfl
namespace Go.Proofs.Ytnfidlgiaaeleaa
/- THE CELL 'sum', in the pinned program and in every row, IS THE sha256 OF THE DUMP (.gsa) THAT YtnfidlgiaaeleaaProg.lean LOADS. Nothing in Lean hashes anything: it is a label: what it is worth is what the hold of that sum in a sandbox is worth. -/
noncomputable def Try.pinned : Pinned := { name := "ytnfidlgiaaeleaa", sum := "e285325534118c36ad99d256288514b7de8bd05b011ad90fdbd1d5b4d4818850", checked := Try.checked }
namespace Rows
def none {H : Type} : Left H := { results := [], args := [] }

/-- 'abutmentlaw13.ConfigRight': WHATEVER THE INPUT: true; the input reads as it did. -/
def configRightSpec : ChangeSpec := { name := "configRight", fn := fun _ => fun
  | [d] => { results := [.lit (.bool true)], args := [d] }
  | _ => none }
def configRightRow : OpenClaim := { program := "ytnfidlgiaaeleaa", sum := "e285325534118c36ad99d256288514b7de8bd05b011ad90fdbd1d5b4d4818850", func := "abutment/abutmentlaw13.ConfigRight", spec := "configRight", inPlace := ["internal/bytealg.IndexByteString", "internal/abi.NoEscape", "internal/bytealg.MakeNoZero"], unfollowed := true, recurses := true, apart := false }
def ConfigRightSaid : Prop := configRightRow.holds Try.pinned (OpenSpec.ofChange configRightSpec)

/-- ITS FALSE NEIGHBOUR: 'it returns false'. Refute it at one input. -/
def configRightWrong : ChangeSpec := { name := "configRight", fn := fun _ => fun
  | [d] => { results := [.lit (.bool false)], args := [d] }
  | _ => none }
def ConfigRightWrongFalsely : Prop := configRightRow.holds Try.pinned (OpenSpec.ofChange configRightWrong)

/-- 'abutmentlaw06.HttpdateParses': WHATEVER THE INPUT: true; the input reads as it did. -/
def httpdateParsesSpec : ChangeSpec := { name := "httpdateParses", fn := fun _ => fun
  | [d1, d2] => { results := [.lit (.bool true)], args := [d1, d2] }
  | _ => none }
def httpdateParsesRow : OpenClaim := { program := "ytnfidlgiaaeleaa", sum := "e285325534118c36ad99d256288514b7de8bd05b011ad90fdbd1d5b4d4818850", func := "abutment/abutmentlaw06.HttpdateParses", spec := "httpdateParses", inPlace := ["internal/abi.NoEscape", "internal/bytealg.MakeNoZero"], unfollowed := true, recurses := true, apart := false }
def HttpdateParsesSaid : Prop := httpdateParsesRow.holds Try.pinned (OpenSpec.ofChange httpdateParsesSpec)

/-- ITS FALSE NEIGHBOUR: 'it returns false'. Refute it at one input. -/
def httpdateParsesWrong : ChangeSpec := { name := "httpdateParses", fn := fun _ => fun
  | [d1, d2] => { results := [.lit (.bool false)], args := [d1, d2] }
  | _ => none }
def HttpdateParsesWrongFalsely : Prop := httpdateParsesRow.holds Try.pinned (OpenSpec.ofChange httpdateParsesWrong)

/-- 'abutmentlaw06.HttpdatePrints': WHATEVER THE INPUT: true; the input reads as it did. -/
def httpdatePrintsSpec : ChangeSpec := { name := "httpdatePrints", fn := fun _ => fun
  | [d] => { results := [.lit (.bool true)], args := [d] }
  | _ => none }
def httpdatePrintsRow : OpenClaim := { program := "ytnfidlgiaaeleaa", sum := "e285325534118c36ad99d256288514b7de8bd05b011ad90fdbd1d5b4d4818850", func := "abutment/abutmentlaw06.HttpdatePrints", spec := "httpdatePrints", inPlace := ["internal/abi.NoEscape", "internal/bytealg.MakeNoZero"], unfollowed := true, recurses := true, apart := false }
def HttpdatePrintsSaid : Prop := httpdatePrintsRow.holds Try.pinned (OpenSpec.ofChange httpdatePrintsSpec)

/-- ITS FALSE NEIGHBOUR: 'it returns false'. Refute it at one input. -/
def httpdatePrintsWrong : ChangeSpec := { name := "httpdatePrints", fn := fun _ => fun
  | [d] => { results := [.lit (.bool false)], args := [d] }
  | _ => none }
def HttpdatePrintsWrongFalsely : Prop := httpdatePrintsRow.holds Try.pinned (OpenSpec.ofChange httpdatePrintsWrong)

/-- 'abutmentlaw06.HttpdateBack': WHATEVER THE INPUT: true; the input reads as it did. -/
def httpdateBackSpec : ChangeSpec := { name := "httpdateBack", fn := fun _ => fun
  | [d1, d2] => { results := [.lit (.bool true)], args := [d1, d2] }
  | _ => none }
def httpdateBackRow : OpenClaim := { program := "ytnfidlgiaaeleaa", sum := "e285325534118c36ad99d256288514b7de8bd05b011ad90fdbd1d5b4d4818850", func := "abutment/abutmentlaw06.HttpdateBack", spec := "httpdateBack", inPlace := ["internal/abi.NoEscape", "internal/bytealg.MakeNoZero"], unfollowed := true, recurses := true, apart := false }
def HttpdateBackSaid : Prop := httpdateBackRow.holds Try.pinned (OpenSpec.ofChange httpdateBackSpec)

/-- ITS FALSE NEIGHBOUR: 'it returns false'. Refute it at one input. -/
def httpdateBackWrong : ChangeSpec := { name := "httpdateBack", fn := fun _ => fun
  | [d1, d2] => { results := [.lit (.bool false)], args := [d1, d2] }
  | _ => none }
def HttpdateBackWrongFalsely : Prop := httpdateBackRow.holds Try.pinned (OpenSpec.ofChange httpdateBackWrong)

/-- 'abutmentlaw30.DatefixFixes': WHATEVER THE INPUT: true; the input reads as it did. -/
def datefixFixesSpec : ChangeSpec := { name := "datefixFixes", fn := fun _ => fun
  | [d1, d2, d3] => { results := [.lit (.bool true)], args := [d1, d2, d3] }
  | _ => none }
def datefixFixesRow : OpenClaim := { program := "ytnfidlgiaaeleaa", sum := "e285325534118c36ad99d256288514b7de8bd05b011ad90fdbd1d5b4d4818850", func := "abutment/abutmentlaw30.DatefixFixes", spec := "datefixFixes", inPlace := ["internal/abi.NoEscape", "internal/bytealg.MakeNoZero"], unfollowed := true, recurses := true, apart := false }
def DatefixFixesSaid : Prop := datefixFixesRow.holds Try.pinned (OpenSpec.ofChange datefixFixesSpec)

/-- ITS FALSE NEIGHBOUR: 'it returns false'. Refute it at one input. -/
def datefixFixesWrong : ChangeSpec := { name := "datefixFixes", fn := fun _ => fun
  | [d1, d2, d3] => { results := [.lit (.bool false)], args := [d1, d2, d3] }
  | _ => none }
def DatefixFixesWrongFalsely : Prop := datefixFixesRow.holds Try.pinned (OpenSpec.ofChange datefixFixesWrong)

/-- 'abutmentlaw30.DatefixStays': WHATEVER THE INPUT: true; the input reads as it did. -/
def datefixStaysSpec : ChangeSpec := { name := "datefixStays", fn := fun _ => fun
  | [d1, d2, d3] => { results := [.lit (.bool true)], args := [d1, d2, d3] }
  | _ => none }
def datefixStaysRow : OpenClaim := { program := "ytnfidlgiaaeleaa", sum := "e285325534118c36ad99d256288514b7de8bd05b011ad90fdbd1d5b4d4818850", func := "abutment/abutmentlaw30.DatefixStays", spec := "datefixStays", inPlace := ["internal/abi.NoEscape", "internal/bytealg.MakeNoZero"], unfollowed := true, recurses := true, apart := false }
def DatefixStaysSaid : Prop := datefixStaysRow.holds Try.pinned (OpenSpec.ofChange datefixStaysSpec)

/-- ITS FALSE NEIGHBOUR: 'it returns false'. Refute it at one input. -/
def datefixStaysWrong : ChangeSpec := { name := "datefixStays", fn := fun _ => fun
  | [d1, d2, d3] => { results := [.lit (.bool false)], args := [d1, d2, d3] }
  | _ => none }
def DatefixStaysWrongFalsely : Prop := datefixStaysRow.holds Try.pinned (OpenSpec.ofChange datefixStaysWrong)

/- THE SECOND FORM. 'bulk': how many values and letters a reading holds, each counted each time it is reached (what is shared counts as often as it is met; a slice's spare places count too). A statement '..UptoSaid' is the law's where the arguments, and the package variables that the reading takes, are together of bulk at most 1048576: NARROWER than '..Said'. Prove '..Said' where nothing that the law and all that it calls make is longer than what came in: it says more and counts as full. Else prove '..UptoSaid'. A law counts once. -/
mutual
def uptoBulk {H : Type} : DataW H → Nat
  | .lit (.string bytes) => bytes.length + 1
  | .lit _ => 1
  | .nil => 1
  | .ptr d => uptoBulk d + 1
  | .slice elems spare => uptoBulkAll elems + uptoBulkAll spare + 1
  | .agg parts => uptoBulkAll parts + 1
  | .iface _ d => uptoBulk d + 1
  | .map entries => uptoBulkEntries entries + 1
  | .held _ => 1
def uptoBulkAll {H : Type} : List (DataW H) → Nat
  | [] => 0
  | d :: r => uptoBulk d + uptoBulkAll r
def uptoBulkEntries {H : Type} : List (Lit × DataW H) → Nat
  | [] => 0
  | x :: r => uptoBulkEntry x + uptoBulkEntries r
def uptoBulkEntry {H : Type} : Lit × DataW H → Nat
  | (.string bytes, d) => bytes.length + uptoBulk d + 1
  | (_, d) => uptoBulk d + 1
 end
def uptoSmall : (H : Type) → List (DataW H) → Bool := fun _ ds => decide (uptoBulkAll ds ≤ 1048576)
def OpenSpec.upto (s : _root_.Go.ChangeSpec) : _root_.Go.OpenSpec := { _root_.Go.OpenSpec.ofChange s with cond := some uptoSmall }

/-- 'abutmentlaw13.ConfigRight', WHERE WHAT IT READS IS OF BULK AT MOST 1048576: true; the input reads as it did. -/
def configRightUptoRow : OpenClaim := { program := "ytnfidlgiaaeleaa", sum := "e285325534118c36ad99d256288514b7de8bd05b011ad90fdbd1d5b4d4818850", func := "abutment/abutmentlaw13.ConfigRight", spec := "configRight", inPlace := ["internal/bytealg.IndexByteString", "internal/abi.NoEscape", "internal/bytealg.MakeNoZero"], unfollowed := true, recurses := true, apart := false, narrowed := true }
def ConfigRightUptoSaid : Prop := configRightUptoRow.holds Try.pinned (OpenSpec.upto configRightSpec)

/-- 'abutmentlaw06.HttpdateParses', WHERE WHAT IT READS IS OF BULK AT MOST 1048576: true; the input reads as it did. -/
def httpdateParsesUptoRow : OpenClaim := { program := "ytnfidlgiaaeleaa", sum := "e285325534118c36ad99d256288514b7de8bd05b011ad90fdbd1d5b4d4818850", func := "abutment/abutmentlaw06.HttpdateParses", spec := "httpdateParses", inPlace := ["internal/abi.NoEscape", "internal/bytealg.MakeNoZero"], unfollowed := true, recurses := true, apart := false, narrowed := true }
def HttpdateParsesUptoSaid : Prop := httpdateParsesUptoRow.holds Try.pinned (OpenSpec.upto httpdateParsesSpec)

/-- 'abutmentlaw06.HttpdatePrints', WHERE WHAT IT READS IS OF BULK AT MOST 1048576: true; the input reads as it did. -/
def httpdatePrintsUptoRow : OpenClaim := { program := "ytnfidlgiaaeleaa", sum := "e285325534118c36ad99d256288514b7de8bd05b011ad90fdbd1d5b4d4818850", func := "abutment/abutmentlaw06.HttpdatePrints", spec := "httpdatePrints", inPlace := ["internal/abi.NoEscape", "internal/bytealg.MakeNoZero"], unfollowed := true, recurses := true, apart := false, narrowed := true }
def HttpdatePrintsUptoSaid : Prop := httpdatePrintsUptoRow.holds Try.pinned (OpenSpec.upto httpdatePrintsSpec)

/-- 'abutmentlaw06.HttpdateBack', WHERE WHAT IT READS IS OF BULK AT MOST 1048576: true; the input reads as it did. -/
def httpdateBackUptoRow : OpenClaim := { program := "ytnfidlgiaaeleaa", sum := "e285325534118c36ad99d256288514b7de8bd05b011ad90fdbd1d5b4d4818850", func := "abutment/abutmentlaw06.HttpdateBack", spec := "httpdateBack", inPlace := ["internal/abi.NoEscape", "internal/bytealg.MakeNoZero"], unfollowed := true, recurses := true, apart := false, narrowed := true }
def HttpdateBackUptoSaid : Prop := httpdateBackUptoRow.holds Try.pinned (OpenSpec.upto httpdateBackSpec)

/-- 'abutmentlaw30.DatefixFixes', WHERE WHAT IT READS IS OF BULK AT MOST 1048576: true; the input reads as it did. -/
def datefixFixesUptoRow : OpenClaim := { program := "ytnfidlgiaaeleaa", sum := "e285325534118c36ad99d256288514b7de8bd05b011ad90fdbd1d5b4d4818850", func := "abutment/abutmentlaw30.DatefixFixes", spec := "datefixFixes", inPlace := ["internal/abi.NoEscape", "internal/bytealg.MakeNoZero"], unfollowed := true, recurses := true, apart := false, narrowed := true }
def DatefixFixesUptoSaid : Prop := datefixFixesUptoRow.holds Try.pinned (OpenSpec.upto datefixFixesSpec)

/-- 'abutmentlaw30.DatefixStays', WHERE WHAT IT READS IS OF BULK AT MOST 1048576: true; the input reads as it did. -/
def datefixStaysUptoRow : OpenClaim := { program := "ytnfidlgiaaeleaa", sum := "e285325534118c36ad99d256288514b7de8bd05b011ad90fdbd1d5b4d4818850", func := "abutment/abutmentlaw30.DatefixStays", spec := "datefixStays", inPlace := ["internal/abi.NoEscape", "internal/bytealg.MakeNoZero"], unfollowed := true, recurses := true, apart := false, narrowed := true }
def DatefixStaysUptoSaid : Prop := datefixStaysUptoRow.holds Try.pinned (OpenSpec.upto datefixStaysSpec)

end Rows
end Go.Proofs.Ytnfidlgiaaeleaa
