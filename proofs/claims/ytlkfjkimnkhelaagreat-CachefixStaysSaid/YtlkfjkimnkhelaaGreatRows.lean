/-
  No cell of these rows narrows 'for every input' (looked for: loops, veiled, ifaces, maps, wideKeys, modest, calm, conditions, laid).
  DERIVED. THE GIVEN ROWS OF THIS SEAT. 5 by the template 'for every input the law returns true; each argument reads behind the call as it read before'; 0 by the template 'total and deterministic' (their statements: YtlkfjkimnkhelaaGreatTotals.lean).
  GIVEN WITH THE SEED: the statements are not yours to turn. If you find one false, say at which input.
  Laid BY PROGRAM, IN A SANDBOX (cutbox-rows.mjs): the forced cells as the released guide's own fill.sh prints them over the translation bbc6b744b1e2f3b8… (all of the seat's roots in one cut). By AI agents, Wed Nov 11 2026. No macro, syntax, notation, axiom, sorry.
-/
import Derived.Test.YtlkfjkimnkhelaaGreatChecked
import GoSem.Claim
import GoSem.ClaimJoined
import GoSem.ClaimMapViews
import Derived.JoinedTies
import Derived.KernelRfl
namespace Go.Proofs.YtlkfjkimnkhelaaGreat
/- THE CELL 'sum', in the pinned program and in every row, IS THE sha256 OF THE DUMP (.gsa) THAT YtlkfjkimnkhelaaGreatProg.lean LOADS. Nothing in Lean hashes anything: it is a label: what it is worth is what the hold of that sum in a sandbox is worth. -/
noncomputable def Tryz.pinned : Pinned := { name := "ytlkfjkimnkhelaagreat", sum := "bbc6b744b1e2f3b8871543d2e506eb1dcde08429c73f59f0740782570d2ba4e0", checked := Tryz.checked }
namespace Rows
def none {H : Type} : Left H := { results := [], args := [] }

/-- 'abutmentlaw20.ViaLoops': WHATEVER THE INPUT: true; the input reads as it did. -/
def viaLoopsSpec : ChangeSpec := { name := "viaLoops", fn := fun _ => fun
  | [d1, d2, d3] => { results := [.lit (.bool true)], args := [d1, d2, d3] }
  | _ => none }
def viaLoopsRow : OpenClaim := { program := "ytlkfjkimnkhelaagreat", sum := "bbc6b744b1e2f3b8871543d2e506eb1dcde08429c73f59f0740782570d2ba4e0", func := "abutment/abutmentlaw20.ViaLoops", spec := "viaLoops", inPlace := ["internal/abi.NoEscape", "internal/bytealg.MakeNoZero", "internal/bytealg.IndexByteString", "internal/bytealg.IndexString"], unfollowed := true, recurses := true, named := ["internal/bytealg.MaxLen"], apart := false }
def ViaLoopsSaid : Prop := viaLoopsRow.holds Tryz.pinned (OpenSpec.ofChange viaLoopsSpec)

/-- ITS FALSE NEIGHBOUR: 'it returns false'. Refute it at one input. -/
def viaLoopsWrong : ChangeSpec := { name := "viaLoops", fn := fun _ => fun
  | [d1, d2, d3] => { results := [.lit (.bool false)], args := [d1, d2, d3] }
  | _ => none }
def ViaLoopsWrongFalsely : Prop := viaLoopsRow.holds Tryz.pinned (OpenSpec.ofChange viaLoopsWrong)

/-- 'abutmentlaw20.ViaBack': WHATEVER THE INPUT: true; the input reads as it did. -/
def viaBackSpec : ChangeSpec := { name := "viaBack", fn := fun _ => fun
  | [d1, d2, d3] => { results := [.lit (.bool true)], args := [d1, d2, d3] }
  | _ => none }
def viaBackRow : OpenClaim := { program := "ytlkfjkimnkhelaagreat", sum := "bbc6b744b1e2f3b8871543d2e506eb1dcde08429c73f59f0740782570d2ba4e0", func := "abutment/abutmentlaw20.ViaBack", spec := "viaBack", inPlace := ["internal/abi.NoEscape", "internal/bytealg.MakeNoZero", "internal/bytealg.IndexByteString", "internal/bytealg.IndexString"], unfollowed := true, recurses := true, named := ["internal/bytealg.MaxLen"], apart := false }
def ViaBackSaid : Prop := viaBackRow.holds Tryz.pinned (OpenSpec.ofChange viaBackSpec)

/-- ITS FALSE NEIGHBOUR: 'it returns false'. Refute it at one input. -/
def viaBackWrong : ChangeSpec := { name := "viaBack", fn := fun _ => fun
  | [d1, d2, d3] => { results := [.lit (.bool false)], args := [d1, d2, d3] }
  | _ => none }
def ViaBackWrongFalsely : Prop := viaBackRow.holds Tryz.pinned (OpenSpec.ofChange viaBackWrong)

/-- 'abutmentlaw31.CachefixRequests': WHATEVER THE INPUT: true; the input reads as it did. -/
def cachefixRequestsSpec : ChangeSpec := { name := "cachefixRequests", fn := fun _ => fun
  | [d1, d2] => { results := [.lit (.bool true)], args := [d1, d2] }
  | _ => none }
def cachefixRequestsRow : OpenClaim := { program := "ytlkfjkimnkhelaagreat", sum := "bbc6b744b1e2f3b8871543d2e506eb1dcde08429c73f59f0740782570d2ba4e0", func := "abutment/abutmentlaw31.CachefixRequests", spec := "cachefixRequests", inPlace := ["internal/abi.NoEscape", "internal/bytealg.MakeNoZero"], unfollowed := true, recurses := true, apart := false }
def CachefixRequestsSaid : Prop := cachefixRequestsRow.holds Tryz.pinned (OpenSpec.ofChange cachefixRequestsSpec)

/-- ITS FALSE NEIGHBOUR: 'it returns false'. Refute it at one input. -/
def cachefixRequestsWrong : ChangeSpec := { name := "cachefixRequests", fn := fun _ => fun
  | [d1, d2] => { results := [.lit (.bool false)], args := [d1, d2] }
  | _ => none }
def CachefixRequestsWrongFalsely : Prop := cachefixRequestsRow.holds Tryz.pinned (OpenSpec.ofChange cachefixRequestsWrong)

/-- 'abutmentlaw31.CachefixResponses': WHATEVER THE INPUT: true; the input reads as it did. -/
def cachefixResponsesSpec : ChangeSpec := { name := "cachefixResponses", fn := fun _ => fun
  | [d1, d2] => { results := [.lit (.bool true)], args := [d1, d2] }
  | _ => none }
def cachefixResponsesRow : OpenClaim := { program := "ytlkfjkimnkhelaagreat", sum := "bbc6b744b1e2f3b8871543d2e506eb1dcde08429c73f59f0740782570d2ba4e0", func := "abutment/abutmentlaw31.CachefixResponses", spec := "cachefixResponses", inPlace := ["internal/abi.NoEscape", "internal/bytealg.MakeNoZero"], unfollowed := true, recurses := true, apart := false }
def CachefixResponsesSaid : Prop := cachefixResponsesRow.holds Tryz.pinned (OpenSpec.ofChange cachefixResponsesSpec)

/-- ITS FALSE NEIGHBOUR: 'it returns false'. Refute it at one input. -/
def cachefixResponsesWrong : ChangeSpec := { name := "cachefixResponses", fn := fun _ => fun
  | [d1, d2] => { results := [.lit (.bool false)], args := [d1, d2] }
  | _ => none }
def CachefixResponsesWrongFalsely : Prop := cachefixResponsesRow.holds Tryz.pinned (OpenSpec.ofChange cachefixResponsesWrong)

/-- 'abutmentlaw31.CachefixStays': WHATEVER THE INPUT: true; the input reads as it did. -/
def cachefixStaysSpec : ChangeSpec := { name := "cachefixStays", fn := fun _ => fun
  | [d1, d2] => { results := [.lit (.bool true)], args := [d1, d2] }
  | _ => none }
def cachefixStaysRow : OpenClaim := { program := "ytlkfjkimnkhelaagreat", sum := "bbc6b744b1e2f3b8871543d2e506eb1dcde08429c73f59f0740782570d2ba4e0", func := "abutment/abutmentlaw31.CachefixStays", spec := "cachefixStays", inPlace := ["internal/abi.NoEscape", "internal/bytealg.MakeNoZero"], unfollowed := true, recurses := true, apart := false }
def CachefixStaysSaid : Prop := cachefixStaysRow.holds Tryz.pinned (OpenSpec.ofChange cachefixStaysSpec)

/-- ITS FALSE NEIGHBOUR: 'it returns false'. Refute it at one input. -/
def cachefixStaysWrong : ChangeSpec := { name := "cachefixStays", fn := fun _ => fun
  | [d1, d2] => { results := [.lit (.bool false)], args := [d1, d2] }
  | _ => none }
def CachefixStaysWrongFalsely : Prop := cachefixStaysRow.holds Tryz.pinned (OpenSpec.ofChange cachefixStaysWrong)

/- THE SECOND FORM. 'bulk': how many values and letters a reading holds, each counted each time it is reached (what is shared counts as often as it is met; a slice's spare places count too). A statement '..UptoSaid' is the law's where the arguments, and the package variables that the reading takes, are together of bulk at most 1048576: NARROWER than '..Said'. Prove '..Said' where nothing that the law and all that it calls make is longer than what came in: it says more and counts as full. Else prove '..UptoSaid'. A law counts once. -/
mutual
def uptoBulk {H : Type} : DataW H → Nat
  | .lit (.string bytes) => bytes.length + 1
  | .lit _ => 1
  | .nil => 1
  | .ptr d => uptoBulk d + 1
  | .slice elems spare => uptoBulkAll elems + uptoBulkAll spare + 1
  | .agg parts => uptoBulkAll parts + 1
  | .iface _ d => uptoBulk d + 1
  | .map entries => uptoBulkEntries entries + 1
  | .held _ => 1
def uptoBulkAll {H : Type} : List (DataW H) → Nat
  | [] => 0
  | d :: r => uptoBulk d + uptoBulkAll r
def uptoBulkEntries {H : Type} : List (Lit × DataW H) → Nat
  | [] => 0
  | x :: r => uptoBulkEntry x + uptoBulkEntries r
def uptoBulkEntry {H : Type} : Lit × DataW H → Nat
  | (.string bytes, d) => bytes.length + uptoBulk d + 1
  | (_, d) => uptoBulk d + 1
 end
def uptoSmall : (H : Type) → List (DataW H) → Bool := fun _ ds => decide (uptoBulkAll ds ≤ 1048576)
def OpenSpec.upto (s : _root_.Go.ChangeSpec) : _root_.Go.OpenSpec := { _root_.Go.OpenSpec.ofChange s with cond := some uptoSmall }

/-- 'abutmentlaw20.ViaLoops', WHERE WHAT IT READS IS OF BULK AT MOST 1048576: true; the input reads as it did. -/
def viaLoopsUptoRow : OpenClaim := { program := "ytlkfjkimnkhelaagreat", sum := "bbc6b744b1e2f3b8871543d2e506eb1dcde08429c73f59f0740782570d2ba4e0", func := "abutment/abutmentlaw20.ViaLoops", spec := "viaLoops", inPlace := ["internal/abi.NoEscape", "internal/bytealg.MakeNoZero", "internal/bytealg.IndexByteString", "internal/bytealg.IndexString"], unfollowed := true, recurses := true, named := ["internal/bytealg.MaxLen"], apart := false, narrowed := true }
def ViaLoopsUptoSaid : Prop := viaLoopsUptoRow.holds Tryz.pinned (OpenSpec.upto viaLoopsSpec)

/-- 'abutmentlaw20.ViaBack', WHERE WHAT IT READS IS OF BULK AT MOST 1048576: true; the input reads as it did. -/
def viaBackUptoRow : OpenClaim := { program := "ytlkfjkimnkhelaagreat", sum := "bbc6b744b1e2f3b8871543d2e506eb1dcde08429c73f59f0740782570d2ba4e0", func := "abutment/abutmentlaw20.ViaBack", spec := "viaBack", inPlace := ["internal/abi.NoEscape", "internal/bytealg.MakeNoZero", "internal/bytealg.IndexByteString", "internal/bytealg.IndexString"], unfollowed := true, recurses := true, named := ["internal/bytealg.MaxLen"], apart := false, narrowed := true }
def ViaBackUptoSaid : Prop := viaBackUptoRow.holds Tryz.pinned (OpenSpec.upto viaBackSpec)

/-- 'abutmentlaw31.CachefixRequests', WHERE WHAT IT READS IS OF BULK AT MOST 1048576: true; the input reads as it did. -/
def cachefixRequestsUptoRow : OpenClaim := { program := "ytlkfjkimnkhelaagreat", sum := "bbc6b744b1e2f3b8871543d2e506eb1dcde08429c73f59f0740782570d2ba4e0", func := "abutment/abutmentlaw31.CachefixRequests", spec := "cachefixRequests", inPlace := ["internal/abi.NoEscape", "internal/bytealg.MakeNoZero"], unfollowed := true, recurses := true, apart := false, narrowed := true }
def CachefixRequestsUptoSaid : Prop := cachefixRequestsUptoRow.holds Tryz.pinned (OpenSpec.upto cachefixRequestsSpec)

/-- 'abutmentlaw31.CachefixResponses', WHERE WHAT IT READS IS OF BULK AT MOST 1048576: true; the input reads as it did. -/
def cachefixResponsesUptoRow : OpenClaim := { program := "ytlkfjkimnkhelaagreat", sum := "bbc6b744b1e2f3b8871543d2e506eb1dcde08429c73f59f0740782570d2ba4e0", func := "abutment/abutmentlaw31.CachefixResponses", spec := "cachefixResponses", inPlace := ["internal/abi.NoEscape", "internal/bytealg.MakeNoZero"], unfollowed := true, recurses := true, apart := false, narrowed := true }
def CachefixResponsesUptoSaid : Prop := cachefixResponsesUptoRow.holds Tryz.pinned (OpenSpec.upto cachefixResponsesSpec)

/-- 'abutmentlaw31.CachefixStays', WHERE WHAT IT READS IS OF BULK AT MOST 1048576: true; the input reads as it did. -/
def cachefixStaysUptoRow : OpenClaim := { program := "ytlkfjkimnkhelaagreat", sum := "bbc6b744b1e2f3b8871543d2e506eb1dcde08429c73f59f0740782570d2ba4e0", func := "abutment/abutmentlaw31.CachefixStays", spec := "cachefixStays", inPlace := ["internal/abi.NoEscape", "internal/bytealg.MakeNoZero"], unfollowed := true, recurses := true, apart := false, narrowed := true }
def CachefixStaysUptoSaid : Prop := cachefixStaysUptoRow.holds Tryz.pinned (OpenSpec.upto cachefixStaysSpec)

end Rows
end Go.Proofs.YtlkfjkimnkhelaaGreat
