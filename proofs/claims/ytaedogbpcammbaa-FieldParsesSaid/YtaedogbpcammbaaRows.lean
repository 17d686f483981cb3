/-
  No cell of these rows narrows 'for every input' (looked for: loops, veiled, ifaces, maps, wideKeys, modest, calm, conditions, laid).
  DERIVED. THE GIVEN ROWS OF THIS SEAT. 11 by the template 'for every input the law returns true; each argument reads behind the call as it read before'; 0 by the template 'total and deterministic' (their statements: YtaedogbpcammbaaTotals.lean).
  GIVEN WITH THE SEED: the statements are not yours to turn. If you find one false, say at which input.
  Laid BY PROGRAM, IN A SANDBOX (cutbox-rows.mjs): the forced cells as the released guide's own fill.sh prints them over the translation 8cdd2e4ae835fc6b… (all of the seat's roots in one cut). By AI agents, Wed Nov 11 2026. No macro, syntax, notation, axiom, sorry.
-/
import Derived.Test.YtaedogbpcammbaaChecked
import GoSem.Claim
import GoSem.ClaimJoined
import GoSem.ClaimMapViews
import Derived.JoinedTies
import Derived.KernelRfl
namespace Go.Proofs.Ytaedogbpcammbaa
/- THE CELL 'sum', in the pinned program and in every row, IS THE sha256 OF THE DUMP (.gsa) THAT YtaedogbpcammbaaProg.lean LOADS. Nothing in Lean hashes anything: it is a label: what it is worth is what the hold of that sum in a sandbox is worth. -/
noncomputable def Try.pinned : Pinned := { name := "ytaedogbpcammbaa", sum := "8cdd2e4ae835fc6b06ad8b325493c7b5812402c6ef0fa62a5a0e5b808c829763", checked := Try.checked }
namespace Rows
def none {H : Type} : Left H := { results := [], args := [] }

/-- 'abutmentlaw09.FieldParses': WHATEVER THE INPUT: true; the input reads as it did. -/
def fieldParsesSpec : ChangeSpec := { name := "fieldParses", fn := fun _ => fun
  | [d1, d2] => { results := [.lit (.bool true)], args := [d1, d2] }
  | _ => none }
def fieldParsesRow : OpenClaim := { program := "ytaedogbpcammbaa", sum := "8cdd2e4ae835fc6b06ad8b325493c7b5812402c6ef0fa62a5a0e5b808c829763", func := "abutment/abutmentlaw09.FieldParses", spec := "fieldParses", inPlace := ["internal/bytealg.IndexByteString", "internal/bytealg.IndexString"], unfollowed := true, recurses := true, named := ["internal/bytealg.MaxLen"], apart := false }
def FieldParsesSaid : Prop := fieldParsesRow.holds Try.pinned (OpenSpec.ofChange fieldParsesSpec)

/-- ITS FALSE NEIGHBOUR: 'it returns false'. Refute it at one input. -/
def fieldParsesWrong : ChangeSpec := { name := "fieldParses", fn := fun _ => fun
  | [d1, d2] => { results := [.lit (.bool false)], args := [d1, d2] }
  | _ => none }
def FieldParsesWrongFalsely : Prop := fieldParsesRow.holds Try.pinned (OpenSpec.ofChange fieldParsesWrong)

/-- 'abutmentlaw07.ListsSplit': WHATEVER THE INPUT: true; the input reads as it did. -/
def listsSplitSpec : ChangeSpec := { name := "listsSplit", fn := fun _ => fun
  | [d1, d2] => { results := [.lit (.bool true)], args := [d1, d2] }
  | _ => none }
def listsSplitRow : OpenClaim := { program := "ytaedogbpcammbaa", sum := "8cdd2e4ae835fc6b06ad8b325493c7b5812402c6ef0fa62a5a0e5b808c829763", func := "abutment/abutmentlaw07.ListsSplit", spec := "listsSplit", inPlace := ["internal/abi.NoEscape", "internal/bytealg.MakeNoZero"], unfollowed := true, recurses := true, apart := false }
def ListsSplitSaid : Prop := listsSplitRow.holds Try.pinned (OpenSpec.ofChange listsSplitSpec)

/-- ITS FALSE NEIGHBOUR: 'it returns false'. Refute it at one input. -/
def listsSplitWrong : ChangeSpec := { name := "listsSplit", fn := fun _ => fun
  | [d1, d2] => { results := [.lit (.bool false)], args := [d1, d2] }
  | _ => none }
def ListsSplitWrongFalsely : Prop := listsSplitRow.holds Try.pinned (OpenSpec.ofChange listsSplitWrong)

/-- 'abutmentlaw07.ListsJoin': WHATEVER THE INPUT: true; the input reads as it did. -/
def listsJoinSpec : ChangeSpec := { name := "listsJoin", fn := fun _ => fun
  | [d] => { results := [.lit (.bool true)], args := [d] }
  | _ => none }
def listsJoinRow : OpenClaim := { program := "ytaedogbpcammbaa", sum := "8cdd2e4ae835fc6b06ad8b325493c7b5812402c6ef0fa62a5a0e5b808c829763", func := "abutment/abutmentlaw07.ListsJoin", spec := "listsJoin", inPlace := ["internal/abi.NoEscape", "internal/bytealg.MakeNoZero"], unfollowed := true, recurses := true, apart := false }
def ListsJoinSaid : Prop := listsJoinRow.holds Try.pinned (OpenSpec.ofChange listsJoinSpec)

/-- ITS FALSE NEIGHBOUR: 'it returns false'. Refute it at one input. -/
def listsJoinWrong : ChangeSpec := { name := "listsJoin", fn := fun _ => fun
  | [d] => { results := [.lit (.bool false)], args := [d] }
  | _ => none }
def ListsJoinWrongFalsely : Prop := listsJoinRow.holds Try.pinned (OpenSpec.ofChange listsJoinWrong)

/-- 'abutmentlaw07.ListsBack': WHATEVER THE INPUT: true; the input reads as it did. -/
def listsBackSpec : ChangeSpec := { name := "listsBack", fn := fun _ => fun
  | [d] => { results := [.lit (.bool true)], args := [d] }
  | _ => none }
def listsBackRow : OpenClaim := { program := "ytaedogbpcammbaa", sum := "8cdd2e4ae835fc6b06ad8b325493c7b5812402c6ef0fa62a5a0e5b808c829763", func := "abutment/abutmentlaw07.ListsBack", spec := "listsBack", inPlace := ["internal/abi.NoEscape", "internal/bytealg.MakeNoZero"], unfollowed := true, recurses := true, apart := false }
def ListsBackSaid : Prop := listsBackRow.holds Try.pinned (OpenSpec.ofChange listsBackSpec)

/-- ITS FALSE NEIGHBOUR: 'it returns false'. Refute it at one input. -/
def listsBackWrong : ChangeSpec := { name := "listsBack", fn := fun _ => fun
  | [d] => { results := [.lit (.bool false)], args := [d] }
  | _ => none }
def ListsBackWrongFalsely : Prop := listsBackRow.holds Try.pinned (OpenSpec.ofChange listsBackWrong)

/-- 'abutmentlaw11.HostParses': WHATEVER THE INPUT: true; the input reads as it did. -/
def hostParsesSpec : ChangeSpec := { name := "hostParses", fn := fun _ => fun
  | [d] => { results := [.lit (.bool true)], args := [d] }
  | _ => none }
def hostParsesRow : OpenClaim := { program := "ytaedogbpcammbaa", sum := "8cdd2e4ae835fc6b06ad8b325493c7b5812402c6ef0fa62a5a0e5b808c829763", func := "abutment/abutmentlaw11.HostParses", spec := "hostParses", inPlace := ["internal/bytealg.IndexByteString"], apart := false }
def HostParsesSaid : Prop := hostParsesRow.holds Try.pinned (OpenSpec.ofChange hostParsesSpec)

/-- ITS FALSE NEIGHBOUR: 'it returns false'. Refute it at one input. -/
def hostParsesWrong : ChangeSpec := { name := "hostParses", fn := fun _ => fun
  | [d] => { results := [.lit (.bool false)], args := [d] }
  | _ => none }
def HostParsesWrongFalsely : Prop := hostParsesRow.holds Try.pinned (OpenSpec.ofChange hostParsesWrong)

/-- 'abutmentlaw11.HostText': WHATEVER THE INPUT: true; the input reads as it did. -/
def hostTextSpec : ChangeSpec := { name := "hostText", fn := fun _ => fun
  | [d1, d2] => { results := [.lit (.bool true)], args := [d1, d2] }
  | _ => none }
def hostTextRow : OpenClaim := { program := "ytaedogbpcammbaa", sum := "8cdd2e4ae835fc6b06ad8b325493c7b5812402c6ef0fa62a5a0e5b808c829763", func := "abutment/abutmentlaw11.HostText", spec := "hostText", inPlace := ["internal/bytealg.IndexByteString"], apart := false }
def HostTextSaid : Prop := hostTextRow.holds Try.pinned (OpenSpec.ofChange hostTextSpec)

/-- ITS FALSE NEIGHBOUR: 'it returns false'. Refute it at one input. -/
def hostTextWrong : ChangeSpec := { name := "hostText", fn := fun _ => fun
  | [d1, d2] => { results := [.lit (.bool false)], args := [d1, d2] }
  | _ => none }
def HostTextWrongFalsely : Prop := hostTextRow.holds Try.pinned (OpenSpec.ofChange hostTextWrong)

/-- 'abutmentlaw11.HostBack': WHATEVER THE INPUT: true; the input reads as it did. -/
def hostBackSpec : ChangeSpec := { name := "hostBack", fn := fun _ => fun
  | [d] => { results := [.lit (.bool true)], args := [d] }
  | _ => none }
def hostBackRow : OpenClaim := { program := "ytaedogbpcammbaa", sum := "8cdd2e4ae835fc6b06ad8b325493c7b5812402c6ef0fa62a5a0e5b808c829763", func := "abutment/abutmentlaw11.HostBack", spec := "hostBack", inPlace := ["internal/bytealg.IndexByteString"], apart := false }
def HostBackSaid : Prop := hostBackRow.holds Try.pinned (OpenSpec.ofChange hostBackSpec)

/-- ITS FALSE NEIGHBOUR: 'it returns false'. Refute it at one input. -/
def hostBackWrong : ChangeSpec := { name := "hostBack", fn := fun _ => fun
  | [d] => { results := [.lit (.bool false)], args := [d] }
  | _ => none }
def HostBackWrongFalsely : Prop := hostBackRow.holds Try.pinned (OpenSpec.ofChange hostBackWrong)

/-- 'abutmentlaw08.ParamsParse': WHATEVER THE INPUT: true; the input reads as it did. -/
def paramsParseSpec : ChangeSpec := { name := "paramsParse", fn := fun _ => fun
  | [d] => { results := [.lit (.bool true)], args := [d] }
  | _ => none }
def paramsParseRow : OpenClaim := { program := "ytaedogbpcammbaa", sum := "8cdd2e4ae835fc6b06ad8b325493c7b5812402c6ef0fa62a5a0e5b808c829763", func := "abutment/abutmentlaw08.ParamsParse", spec := "paramsParse", unfollowed := true, recurses := true, apart := false }
def ParamsParseSaid : Prop := paramsParseRow.holds Try.pinned (OpenSpec.ofChange paramsParseSpec)

/-- ITS FALSE NEIGHBOUR: 'it returns false'. Refute it at one input. -/
def paramsParseWrong : ChangeSpec := { name := "paramsParse", fn := fun _ => fun
  | [d] => { results := [.lit (.bool false)], args := [d] }
  | _ => none }
def ParamsParseWrongFalsely : Prop := paramsParseRow.holds Try.pinned (OpenSpec.ofChange paramsParseWrong)

/-- 'abutmentlaw08.ParamsPrint': WHATEVER THE INPUT: true; the input reads as it did. -/
def paramsPrintSpec : ChangeSpec := { name := "paramsPrint", fn := fun _ => fun
  | [d1, d2] => { results := [.lit (.bool true)], args := [d1, d2] }
  | _ => none }
def paramsPrintRow : OpenClaim := { program := "ytaedogbpcammbaa", sum := "8cdd2e4ae835fc6b06ad8b325493c7b5812402c6ef0fa62a5a0e5b808c829763", func := "abutment/abutmentlaw08.ParamsPrint", spec := "paramsPrint", unfollowed := true, recurses := true, apart := false }
def ParamsPrintSaid : Prop := paramsPrintRow.holds Try.pinned (OpenSpec.ofChange paramsPrintSpec)

/-- ITS FALSE NEIGHBOUR: 'it returns false'. Refute it at one input. -/
def paramsPrintWrong : ChangeSpec := { name := "paramsPrint", fn := fun _ => fun
  | [d1, d2] => { results := [.lit (.bool false)], args := [d1, d2] }
  | _ => none }
def ParamsPrintWrongFalsely : Prop := paramsPrintRow.holds Try.pinned (OpenSpec.ofChange paramsPrintWrong)

/-- 'abutmentlaw08.ParamsBack': WHATEVER THE INPUT: true; the input reads as it did. -/
def paramsBackSpec : ChangeSpec := { name := "paramsBack", fn := fun _ => fun
  | [d1, d2, d3] => { results := [.lit (.bool true)], args := [d1, d2, d3] }
  | _ => none }
def paramsBackRow : OpenClaim := { program := "ytaedogbpcammbaa", sum := "8cdd2e4ae835fc6b06ad8b325493c7b5812402c6ef0fa62a5a0e5b808c829763", func := "abutment/abutmentlaw08.ParamsBack", spec := "paramsBack", unfollowed := true, recurses := true, apart := false }
def ParamsBackSaid : Prop := paramsBackRow.holds Try.pinned (OpenSpec.ofChange paramsBackSpec)

/-- ITS FALSE NEIGHBOUR: 'it returns false'. Refute it at one input. -/
def paramsBackWrong : ChangeSpec := { name := "paramsBack", fn := fun _ => fun
  | [d1, d2, d3] => { results := [.lit (.bool false)], args := [d1, d2, d3] }
  | _ => none }
def ParamsBackWrongFalsely : Prop := paramsBackRow.holds Try.pinned (OpenSpec.ofChange paramsBackWrong)

/-- 'abutmentlaw02.DigitsRead': WHATEVER THE INPUT: true; the input reads as it did. -/
def digitsReadSpec : ChangeSpec := { name := "digitsRead", fn := fun _ => fun
  | [d1, d2] => { results := [.lit (.bool true)], args := [d1, d2] }
  | _ => none }
def digitsReadRow : OpenClaim := { program := "ytaedogbpcammbaa", sum := "8cdd2e4ae835fc6b06ad8b325493c7b5812402c6ef0fa62a5a0e5b808c829763", func := "abutment/abutmentlaw02.DigitsRead", spec := "digitsRead", inPlace := ["internal/abi.NoEscape", "internal/bytealg.MakeNoZero"], apart := false }
def DigitsReadSaid : Prop := digitsReadRow.holds Try.pinned (OpenSpec.ofChange digitsReadSpec)

/-- ITS FALSE NEIGHBOUR: 'it returns false'. Refute it at one input. -/
def digitsReadWrong : ChangeSpec := { name := "digitsRead", fn := fun _ => fun
  | [d1, d2] => { results := [.lit (.bool false)], args := [d1, d2] }
  | _ => none }
def DigitsReadWrongFalsely : Prop := digitsReadRow.holds Try.pinned (OpenSpec.ofChange digitsReadWrong)

/- THE SECOND FORM. 'bulk': how many values and letters a reading holds, each counted each time it is reached (what is shared counts as often as it is met; a slice's spare places count too). A statement '..UptoSaid' is the law's where the arguments, and the package variables that the reading takes, are together of bulk at most 1048576: NARROWER than '..Said'. Prove '..Said' where nothing that the law and all that it calls make is longer than what came in: it says more and counts as full. Else prove '..UptoSaid'. A law counts once. -/
mutual
def uptoBulk {H : Type} : DataW H → Nat
  | .lit (.string bytes) => bytes.length + 1
  | .lit _ => 1
  | .nil => 1
  | .ptr d => uptoBulk d + 1
  | .slice elems spare => uptoBulkAll elems + uptoBulkAll spare + 1
  | .agg parts => uptoBulkAll parts + 1
  | .iface _ d => uptoBulk d + 1
  | .map entries => uptoBulkEntries entries + 1
  | .held _ => 1
def uptoBulkAll {H : Type} : List (DataW H) → Nat
  | [] => 0
  | d :: r => uptoBulk d + uptoBulkAll r
def uptoBulkEntries {H : Type} : List (Lit × DataW H) → Nat
  | [] => 0
  | x :: r => uptoBulkEntry x + uptoBulkEntries r
def uptoBulkEntry {H : Type} : Lit × DataW H → Nat
  | (.string bytes, d) => bytes.length + uptoBulk d + 1
  | (_, d) => uptoBulk d + 1
 end
def uptoSmall : (H : Type) → List (DataW H) → Bool := fun _ ds => decide (uptoBulkAll ds ≤ 1048576)
def OpenSpec.upto (s : _root_.Go.ChangeSpec) : _root_.Go.OpenSpec := { _root_.Go.OpenSpec.ofChange s with cond := some uptoSmall }

/-- 'abutmentlaw09.FieldParses', WHERE WHAT IT READS IS OF BULK AT MOST 1048576: true; the input reads as it did. -/
def fieldParsesUptoRow : OpenClaim := { program := "ytaedogbpcammbaa", sum := "8cdd2e4ae835fc6b06ad8b325493c7b5812402c6ef0fa62a5a0e5b808c829763", func := "abutment/abutmentlaw09.FieldParses", spec := "fieldParses", inPlace := ["internal/bytealg.IndexByteString", "internal/bytealg.IndexString"], unfollowed := true, recurses := true, named := ["internal/bytealg.MaxLen"], apart := false, narrowed := true }
def FieldParsesUptoSaid : Prop := fieldParsesUptoRow.holds Try.pinned (OpenSpec.upto fieldParsesSpec)

/-- 'abutmentlaw07.ListsSplit', WHERE WHAT IT READS IS OF BULK AT MOST 1048576: true; the input reads as it did. -/
def listsSplitUptoRow : OpenClaim := { program := "ytaedogbpcammbaa", sum := "8cdd2e4ae835fc6b06ad8b325493c7b5812402c6ef0fa62a5a0e5b808c829763", func := "abutment/abutmentlaw07.ListsSplit", spec := "listsSplit", inPlace := ["internal/abi.NoEscape", "internal/bytealg.MakeNoZero"], unfollowed := true, recurses := true, apart := false, narrowed := true }
def ListsSplitUptoSaid : Prop := listsSplitUptoRow.holds Try.pinned (OpenSpec.upto listsSplitSpec)

/-- 'abutmentlaw07.ListsJoin', WHERE WHAT IT READS IS OF BULK AT MOST 1048576: true; the input reads as it did. -/
def listsJoinUptoRow : OpenClaim := { program := "ytaedogbpcammbaa", sum := "8cdd2e4ae835fc6b06ad8b325493c7b5812402c6ef0fa62a5a0e5b808c829763", func := "abutment/abutmentlaw07.ListsJoin", spec := "listsJoin", inPlace := ["internal/abi.NoEscape", "internal/bytealg.MakeNoZero"], unfollowed := true, recurses := true, apart := false, narrowed := true }
def ListsJoinUptoSaid : Prop := listsJoinUptoRow.holds Try.pinned (OpenSpec.upto listsJoinSpec)

/-- 'abutmentlaw07.ListsBack', WHERE WHAT IT READS IS OF BULK AT MOST 1048576: true; the input reads as it did. -/
def listsBackUptoRow : OpenClaim := { program := "ytaedogbpcammbaa", sum := "8cdd2e4ae835fc6b06ad8b325493c7b5812402c6ef0fa62a5a0e5b808c829763", func := "abutment/abutmentlaw07.ListsBack", spec := "listsBack", inPlace := ["internal/abi.NoEscape", "internal/bytealg.MakeNoZero"], unfollowed := true, recurses := true, apart := false, narrowed := true }
def ListsBackUptoSaid : Prop := listsBackUptoRow.holds Try.pinned (OpenSpec.upto listsBackSpec)

/-- 'abutmentlaw11.HostParses', WHERE WHAT IT READS IS OF BULK AT MOST 1048576: true; the input reads as it did. -/
def hostParsesUptoRow : OpenClaim := { program := "ytaedogbpcammbaa", sum := "8cdd2e4ae835fc6b06ad8b325493c7b5812402c6ef0fa62a5a0e5b808c829763", func := "abutment/abutmentlaw11.HostParses", spec := "hostParses", inPlace := ["internal/bytealg.IndexByteString"], apart := false, narrowed := true }
def HostParsesUptoSaid : Prop := hostParsesUptoRow.holds Try.pinned (OpenSpec.upto hostParsesSpec)

/-- 'abutmentlaw11.HostText', WHERE WHAT IT READS IS OF BULK AT MOST 1048576: true; the input reads as it did. -/
def hostTextUptoRow : OpenClaim := { program := "ytaedogbpcammbaa", sum := "8cdd2e4ae835fc6b06ad8b325493c7b5812402c6ef0fa62a5a0e5b808c829763", func := "abutment/abutmentlaw11.HostText", spec := "hostText", inPlace := ["internal/bytealg.IndexByteString"], apart := false, narrowed := true }
def HostTextUptoSaid : Prop := hostTextUptoRow.holds Try.pinned (OpenSpec.upto hostTextSpec)

/-- 'abutmentlaw11.HostBack', WHERE WHAT IT READS IS OF BULK AT MOST 1048576: true; the input reads as it did. -/
def hostBackUptoRow : OpenClaim := { program := "ytaedogbpcammbaa", sum := "8cdd2e4ae835fc6b06ad8b325493c7b5812402c6ef0fa62a5a0e5b808c829763", func := "abutment/abutmentlaw11.HostBack", spec := "hostBack", inPlace := ["internal/bytealg.IndexByteString"], apart := false, narrowed := true }
def HostBackUptoSaid : Prop := hostBackUptoRow.holds Try.pinned (OpenSpec.upto hostBackSpec)

/-- 'abutmentlaw08.ParamsParse', WHERE WHAT IT READS IS OF BULK AT MOST 1048576: true; the input reads as it did. -/
def paramsParseUptoRow : OpenClaim := { program := "ytaedogbpcammbaa", sum := "8cdd2e4ae835fc6b06ad8b325493c7b5812402c6ef0fa62a5a0e5b808c829763", func := "abutment/abutmentlaw08.ParamsParse", spec := "paramsParse", unfollowed := true, recurses := true, apart := false, narrowed := true }
def ParamsParseUptoSaid : Prop := paramsParseUptoRow.holds Try.pinned (OpenSpec.upto paramsParseSpec)

/-- 'abutmentlaw08.ParamsPrint', WHERE WHAT IT READS IS OF BULK AT MOST 1048576: true; the input reads as it did. -/
def paramsPrintUptoRow : OpenClaim := { program := "ytaedogbpcammbaa", sum := "8cdd2e4ae835fc6b06ad8b325493c7b5812402c6ef0fa62a5a0e5b808c829763", func := "abutment/abutmentlaw08.ParamsPrint", spec := "paramsPrint", unfollowed := true, recurses := true, apart := false, narrowed := true }
def ParamsPrintUptoSaid : Prop := paramsPrintUptoRow.holds Try.pinned (OpenSpec.upto paramsPrintSpec)

/-- 'abutmentlaw08.ParamsBack', WHERE WHAT IT READS IS OF BULK AT MOST 1048576: true; the input reads as it did. -/
def paramsBackUptoRow : OpenClaim := { program := "ytaedogbpcammbaa", sum := "8cdd2e4ae835fc6b06ad8b325493c7b5812402c6ef0fa62a5a0e5b808c829763", func := "abutment/abutmentlaw08.ParamsBack", spec := "paramsBack", unfollowed := true, recurses := true, apart := false, narrowed := true }
def ParamsBackUptoSaid : Prop := paramsBackUptoRow.holds Try.pinned (OpenSpec.upto paramsBackSpec)

/-- 'abutmentlaw02.DigitsRead', WHERE WHAT IT READS IS OF BULK AT MOST 1048576: true; the input reads as it did. -/
def digitsReadUptoRow : OpenClaim := { program := "ytaedogbpcammbaa", sum := "8cdd2e4ae835fc6b06ad8b325493c7b5812402c6ef0fa62a5a0e5b808c829763", func := "abutment/abutmentlaw02.DigitsRead", spec := "digitsRead", inPlace := ["internal/abi.NoEscape", "internal/bytealg.MakeNoZero"], apart := false, narrowed := true }
def DigitsReadUptoSaid : Prop := digitsReadUptoRow.holds Try.pinned (OpenSpec.upto digitsReadSpec)

end Rows
end Go.Proofs.Ytaedogbpcammbaa
