/-
  No cell of these rows narrows 'for every input' (looked for: loops, veiled, ifaces, maps, wideKeys, modest, calm, conditions, laid).
  DERIVED. THE GIVEN ROWS OF THIS SEAT. 32 by the template 'for every input the law returns true; each argument reads behind the call as it read before'; 0 by the template 'total and deterministic' (their statements: YtanpmebamgnhbaaTotals.lean).
  GIVEN WITH THE SEED: the statements are not yours to turn. If you find one false, say at which input.
  Laid BY PROGRAM, IN A SANDBOX (cutbox-rows.mjs): the forced cells as the released guide's own fill.sh prints them over the translation 95b96f41b0e4a8a2… (all of the seat's roots in one cut). By AI agents, Wed Nov 11 2026. No macro, syntax, notation, axiom, sorry.
-/
import Derived.Test.YtanpmebamgnhbaaChecked
import GoSem.Claim
import GoSem.ClaimJoined
import GoSem.ClaimMapViews
import Derived.JoinedTies
import Derived.KernelRfl
namespace Go.Proofs.Ytanpmebamgnhbaa
/- THE CELL 'sum', in the pinned program and in every row, IS THE sha256 OF THE DUMP (.gsa) THAT YtanpmebamgnhbaaProg.lean LOADS. Nothing in Lean hashes anything: it is a label: what it is worth is what the hold of that sum in a sandbox is worth. -/
noncomputable def Try.pinned : Pinned := { name := "ytanpmebamgnhbaa", sum := "95b96f41b0e4a8a296ef0e8755c4177e0f15c7de15e9c2d6cb3d9b277276ff41", checked := Try.checked }
namespace Rows
def none {H : Type} : Left H := { results := [], args := [] }

/-- 'abutmentlaw07.ListsSplit': WHATEVER THE INPUT: true; the input reads as it did. -/
def listsSplitSpec : ChangeSpec := { name := "listsSplit", fn := fun _ => fun
  | [d1, d2] => { results := [.lit (.bool true)], args := [d1, d2] }
  | _ => none }
def listsSplitRow : OpenClaim := { program := "ytanpmebamgnhbaa", sum := "95b96f41b0e4a8a296ef0e8755c4177e0f15c7de15e9c2d6cb3d9b277276ff41", func := "abutment/abutmentlaw07.ListsSplit", spec := "listsSplit", inPlace := ["internal/abi.NoEscape", "internal/bytealg.MakeNoZero"], unfollowed := true, recurses := true, apart := false }
def ListsSplitSaid : Prop := listsSplitRow.holds Try.pinned (OpenSpec.ofChange listsSplitSpec)

/-- ITS FALSE NEIGHBOUR: 'it returns false'. Refute it at one input. -/
def listsSplitWrong : ChangeSpec := { name := "listsSplit", fn := fun _ => fun
  | [d1, d2] => { results := [.lit (.bool false)], args := [d1, d2] }
  | _ => none }
def ListsSplitWrongFalsely : Prop := listsSplitRow.holds Try.pinned (OpenSpec.ofChange listsSplitWrong)

/-- 'abutmentlaw07.ListsJoin': WHATEVER THE INPUT: true; the input reads as it did. -/
def listsJoinSpec : ChangeSpec := { name := "listsJoin", fn := fun _ => fun
  | [d] => { results := [.lit (.bool true)], args := [d] }
  | _ => none }
def listsJoinRow : OpenClaim := { program := "ytanpmebamgnhbaa", sum := "95b96f41b0e4a8a296ef0e8755c4177e0f15c7de15e9c2d6cb3d9b277276ff41", func := "abutment/abutmentlaw07.ListsJoin", spec := "listsJoin", inPlace := ["internal/abi.NoEscape", "internal/bytealg.MakeNoZero"], unfollowed := true, recurses := true, apart := false }
def ListsJoinSaid : Prop := listsJoinRow.holds Try.pinned (OpenSpec.ofChange listsJoinSpec)

/-- ITS FALSE NEIGHBOUR: 'it returns false'. Refute it at one input. -/
def listsJoinWrong : ChangeSpec := { name := "listsJoin", fn := fun _ => fun
  | [d] => { results := [.lit (.bool false)], args := [d] }
  | _ => none }
def ListsJoinWrongFalsely : Prop := listsJoinRow.holds Try.pinned (OpenSpec.ofChange listsJoinWrong)

/-- 'abutmentlaw07.ListsBack': WHATEVER THE INPUT: true; the input reads as it did. -/
def listsBackSpec : ChangeSpec := { name := "listsBack", fn := fun _ => fun
  | [d] => { results := [.lit (.bool true)], args := [d] }
  | _ => none }
def listsBackRow : OpenClaim := { program := "ytanpmebamgnhbaa", sum := "95b96f41b0e4a8a296ef0e8755c4177e0f15c7de15e9c2d6cb3d9b277276ff41", func := "abutment/abutmentlaw07.ListsBack", spec := "listsBack", inPlace := ["internal/abi.NoEscape", "internal/bytealg.MakeNoZero"], unfollowed := true, recurses := true, apart := false }
def ListsBackSaid : Prop := listsBackRow.holds Try.pinned (OpenSpec.ofChange listsBackSpec)

/-- ITS FALSE NEIGHBOUR: 'it returns false'. Refute it at one input. -/
def listsBackWrong : ChangeSpec := { name := "listsBack", fn := fun _ => fun
  | [d] => { results := [.lit (.bool false)], args := [d] }
  | _ => none }
def ListsBackWrongFalsely : Prop := listsBackRow.holds Try.pinned (OpenSpec.ofChange listsBackWrong)

/-- 'abutmentlaw11.HostParses': WHATEVER THE INPUT: true; the input reads as it did. -/
def hostParsesSpec : ChangeSpec := { name := "hostParses", fn := fun _ => fun
  | [d] => { results := [.lit (.bool true)], args := [d] }
  | _ => none }
def hostParsesRow : OpenClaim := { program := "ytanpmebamgnhbaa", sum := "95b96f41b0e4a8a296ef0e8755c4177e0f15c7de15e9c2d6cb3d9b277276ff41", func := "abutment/abutmentlaw11.HostParses", spec := "hostParses", inPlace := ["internal/bytealg.IndexByteString"], apart := false }
def HostParsesSaid : Prop := hostParsesRow.holds Try.pinned (OpenSpec.ofChange hostParsesSpec)

/-- ITS FALSE NEIGHBOUR: 'it returns false'. Refute it at one input. -/
def hostParsesWrong : ChangeSpec := { name := "hostParses", fn := fun _ => fun
  | [d] => { results := [.lit (.bool false)], args := [d] }
  | _ => none }
def HostParsesWrongFalsely : Prop := hostParsesRow.holds Try.pinned (OpenSpec.ofChange hostParsesWrong)

/-- 'abutmentlaw11.HostText': WHATEVER THE INPUT: true; the input reads as it did. -/
def hostTextSpec : ChangeSpec := { name := "hostText", fn := fun _ => fun
  | [d1, d2] => { results := [.lit (.bool true)], args := [d1, d2] }
  | _ => none }
def hostTextRow : OpenClaim := { program := "ytanpmebamgnhbaa", sum := "95b96f41b0e4a8a296ef0e8755c4177e0f15c7de15e9c2d6cb3d9b277276ff41", func := "abutment/abutmentlaw11.HostText", spec := "hostText", inPlace := ["internal/bytealg.IndexByteString"], apart := false }
def HostTextSaid : Prop := hostTextRow.holds Try.pinned (OpenSpec.ofChange hostTextSpec)

/-- ITS FALSE NEIGHBOUR: 'it returns false'. Refute it at one input. -/
def hostTextWrong : ChangeSpec := { name := "hostText", fn := fun _ => fun
  | [d1, d2] => { results := [.lit (.bool false)], args := [d1, d2] }
  | _ => none }
def HostTextWrongFalsely : Prop := hostTextRow.holds Try.pinned (OpenSpec.ofChange hostTextWrong)

/-- 'abutmentlaw11.HostBack': WHATEVER THE INPUT: true; the input reads as it did. -/
def hostBackSpec : ChangeSpec := { name := "hostBack", fn := fun _ => fun
  | [d] => { results := [.lit (.bool true)], args := [d] }
  | _ => none }
def hostBackRow : OpenClaim := { program := "ytanpmebamgnhbaa", sum := "95b96f41b0e4a8a296ef0e8755c4177e0f15c7de15e9c2d6cb3d9b277276ff41", func := "abutment/abutmentlaw11.HostBack", spec := "hostBack", inPlace := ["internal/bytealg.IndexByteString"], apart := false }
def HostBackSaid : Prop := hostBackRow.holds Try.pinned (OpenSpec.ofChange hostBackSpec)

/-- ITS FALSE NEIGHBOUR: 'it returns false'. Refute it at one input. -/
def hostBackWrong : ChangeSpec := { name := "hostBack", fn := fun _ => fun
  | [d] => { results := [.lit (.bool false)], args := [d] }
  | _ => none }
def HostBackWrongFalsely : Prop := hostBackRow.holds Try.pinned (OpenSpec.ofChange hostBackWrong)

/-- 'abutmentlaw08.ParamsParse': WHATEVER THE INPUT: true; the input reads as it did. -/
def paramsParseSpec : ChangeSpec := { name := "paramsParse", fn := fun _ => fun
  | [d] => { results := [.lit (.bool true)], args := [d] }
  | _ => none }
def paramsParseRow : OpenClaim := { program := "ytanpmebamgnhbaa", sum := "95b96f41b0e4a8a296ef0e8755c4177e0f15c7de15e9c2d6cb3d9b277276ff41", func := "abutment/abutmentlaw08.ParamsParse", spec := "paramsParse", unfollowed := true, recurses := true, apart := false }
def ParamsParseSaid : Prop := paramsParseRow.holds Try.pinned (OpenSpec.ofChange paramsParseSpec)

/-- ITS FALSE NEIGHBOUR: 'it returns false'. Refute it at one input. -/
def paramsParseWrong : ChangeSpec := { name := "paramsParse", fn := fun _ => fun
  | [d] => { results := [.lit (.bool false)], args := [d] }
  | _ => none }
def ParamsParseWrongFalsely : Prop := paramsParseRow.holds Try.pinned (OpenSpec.ofChange paramsParseWrong)

/-- 'abutmentlaw08.ParamsPrint': WHATEVER THE INPUT: true; the input reads as it did. -/
def paramsPrintSpec : ChangeSpec := { name := "paramsPrint", fn := fun _ => fun
  | [d1, d2] => { results := [.lit (.bool true)], args := [d1, d2] }
  | _ => none }
def paramsPrintRow : OpenClaim := { program := "ytanpmebamgnhbaa", sum := "95b96f41b0e4a8a296ef0e8755c4177e0f15c7de15e9c2d6cb3d9b277276ff41", func := "abutment/abutmentlaw08.ParamsPrint", spec := "paramsPrint", unfollowed := true, recurses := true, apart := false }
def ParamsPrintSaid : Prop := paramsPrintRow.holds Try.pinned (OpenSpec.ofChange paramsPrintSpec)

/-- ITS FALSE NEIGHBOUR: 'it returns false'. Refute it at one input. -/
def paramsPrintWrong : ChangeSpec := { name := "paramsPrint", fn := fun _ => fun
  | [d1, d2] => { results := [.lit (.bool false)], args := [d1, d2] }
  | _ => none }
def ParamsPrintWrongFalsely : Prop := paramsPrintRow.holds Try.pinned (OpenSpec.ofChange paramsPrintWrong)

/-- 'abutmentlaw08.ParamsBack': WHATEVER THE INPUT: true; the input reads as it did. -/
def paramsBackSpec : ChangeSpec := { name := "paramsBack", fn := fun _ => fun
  | [d1, d2, d3] => { results := [.lit (.bool true)], args := [d1, d2, d3] }
  | _ => none }
def paramsBackRow : OpenClaim := { program := "ytanpmebamgnhbaa", sum := "95b96f41b0e4a8a296ef0e8755c4177e0f15c7de15e9c2d6cb3d9b277276ff41", func := "abutment/abutmentlaw08.ParamsBack", spec := "paramsBack", unfollowed := true, recurses := true, apart := false }
def ParamsBackSaid : Prop := paramsBackRow.holds Try.pinned (OpenSpec.ofChange paramsBackSpec)

/-- ITS FALSE NEIGHBOUR: 'it returns false'. Refute it at one input. -/
def paramsBackWrong : ChangeSpec := { name := "paramsBack", fn := fun _ => fun
  | [d1, d2, d3] => { results := [.lit (.bool false)], args := [d1, d2, d3] }
  | _ => none }
def ParamsBackWrongFalsely : Prop := paramsBackRow.holds Try.pinned (OpenSpec.ofChange paramsBackWrong)

/-- 'abutmentlaw02.DigitsRead': WHATEVER THE INPUT: true; the input reads as it did. -/
def digitsReadSpec : ChangeSpec := { name := "digitsRead", fn := fun _ => fun
  | [d1, d2] => { results := [.lit (.bool true)], args := [d1, d2] }
  | _ => none }
def digitsReadRow : OpenClaim := { program := "ytanpmebamgnhbaa", sum := "95b96f41b0e4a8a296ef0e8755c4177e0f15c7de15e9c2d6cb3d9b277276ff41", func := "abutment/abutmentlaw02.DigitsRead", spec := "digitsRead", inPlace := ["internal/abi.NoEscape", "internal/bytealg.MakeNoZero"], apart := false }
def DigitsReadSaid : Prop := digitsReadRow.holds Try.pinned (OpenSpec.ofChange digitsReadSpec)

/-- ITS FALSE NEIGHBOUR: 'it returns false'. Refute it at one input. -/
def digitsReadWrong : ChangeSpec := { name := "digitsRead", fn := fun _ => fun
  | [d1, d2] => { results := [.lit (.bool false)], args := [d1, d2] }
  | _ => none }
def DigitsReadWrongFalsely : Prop := digitsReadRow.holds Try.pinned (OpenSpec.ofChange digitsReadWrong)

/-- 'abutmentlaw14.ChunkParses': WHATEVER THE INPUT: true; the input reads as it did. -/
def chunkParsesSpec : ChangeSpec := { name := "chunkParses", fn := fun _ => fun
  | [d] => { results := [.lit (.bool true)], args := [d] }
  | _ => none }
def chunkParsesRow : OpenClaim := { program := "ytanpmebamgnhbaa", sum := "95b96f41b0e4a8a296ef0e8755c4177e0f15c7de15e9c2d6cb3d9b277276ff41", func := "abutment/abutmentlaw14.ChunkParses", spec := "chunkParses", inPlace := ["internal/bytealg.IndexByteString"], unfollowed := true, recurses := true, apart := false }
def ChunkParsesSaid : Prop := chunkParsesRow.holds Try.pinned (OpenSpec.ofChange chunkParsesSpec)

/-- ITS FALSE NEIGHBOUR: 'it returns false'. Refute it at one input. -/
def chunkParsesWrong : ChangeSpec := { name := "chunkParses", fn := fun _ => fun
  | [d] => { results := [.lit (.bool false)], args := [d] }
  | _ => none }
def ChunkParsesWrongFalsely : Prop := chunkParsesRow.holds Try.pinned (OpenSpec.ofChange chunkParsesWrong)

/-- 'abutmentlaw14.ChunkSizes': WHATEVER THE INPUT: true; the input reads as it did. -/
def chunkSizesSpec : ChangeSpec := { name := "chunkSizes", fn := fun _ => fun
  | [d1, d2] => { results := [.lit (.bool true)], args := [d1, d2] }
  | _ => none }
def chunkSizesRow : OpenClaim := { program := "ytanpmebamgnhbaa", sum := "95b96f41b0e4a8a296ef0e8755c4177e0f15c7de15e9c2d6cb3d9b277276ff41", func := "abutment/abutmentlaw14.ChunkSizes", spec := "chunkSizes", inPlace := ["internal/bytealg.IndexByteString"], unfollowed := true, recurses := true, apart := false }
def ChunkSizesSaid : Prop := chunkSizesRow.holds Try.pinned (OpenSpec.ofChange chunkSizesSpec)

/-- ITS FALSE NEIGHBOUR: 'it returns false'. Refute it at one input. -/
def chunkSizesWrong : ChangeSpec := { name := "chunkSizes", fn := fun _ => fun
  | [d1, d2] => { results := [.lit (.bool false)], args := [d1, d2] }
  | _ => none }
def ChunkSizesWrongFalsely : Prop := chunkSizesRow.holds Try.pinned (OpenSpec.ofChange chunkSizesWrong)

/-- 'abutmentlaw14.ChunkBack': WHATEVER THE INPUT: true; the input reads as it did. -/
def chunkBackSpec : ChangeSpec := { name := "chunkBack", fn := fun _ => fun
  | [d1, d2] => { results := [.lit (.bool true)], args := [d1, d2] }
  | _ => none }
def chunkBackRow : OpenClaim := { program := "ytanpmebamgnhbaa", sum := "95b96f41b0e4a8a296ef0e8755c4177e0f15c7de15e9c2d6cb3d9b277276ff41", func := "abutment/abutmentlaw14.ChunkBack", spec := "chunkBack", inPlace := ["internal/bytealg.IndexByteString"], unfollowed := true, recurses := true, apart := false }
def ChunkBackSaid : Prop := chunkBackRow.holds Try.pinned (OpenSpec.ofChange chunkBackSpec)

/-- ITS FALSE NEIGHBOUR: 'it returns false'. Refute it at one input. -/
def chunkBackWrong : ChangeSpec := { name := "chunkBack", fn := fun _ => fun
  | [d1, d2] => { results := [.lit (.bool false)], args := [d1, d2] }
  | _ => none }
def ChunkBackWrongFalsely : Prop := chunkBackRow.holds Try.pinned (OpenSpec.ofChange chunkBackWrong)

/-- 'abutmentlaw29.HopStrips': WHATEVER THE INPUT: true; the input reads as it did. -/
def hopStripsSpec : ChangeSpec := { name := "hopStrips", fn := fun _ => fun
  | [d] => { results := [.lit (.bool true)], args := [d] }
  | _ => none }
def hopStripsRow : OpenClaim := { program := "ytanpmebamgnhbaa", sum := "95b96f41b0e4a8a296ef0e8755c4177e0f15c7de15e9c2d6cb3d9b277276ff41", func := "abutment/abutmentlaw29.HopStrips", spec := "hopStrips", inPlace := ["internal/abi.NoEscape", "internal/bytealg.MakeNoZero"], unfollowed := true, recurses := true, apart := false }
def HopStripsSaid : Prop := hopStripsRow.holds Try.pinned (OpenSpec.ofChange hopStripsSpec)

/-- ITS FALSE NEIGHBOUR: 'it returns false'. Refute it at one input. -/
def hopStripsWrong : ChangeSpec := { name := "hopStrips", fn := fun _ => fun
  | [d] => { results := [.lit (.bool false)], args := [d] }
  | _ => none }
def HopStripsWrongFalsely : Prop := hopStripsRow.holds Try.pinned (OpenSpec.ofChange hopStripsWrong)

/-- 'abutmentlaw32.HostfixFixes': WHATEVER THE INPUT: true; the input reads as it did. -/
def hostfixFixesSpec : ChangeSpec := { name := "hostfixFixes", fn := fun _ => fun
  | [d1, d2, d3] => { results := [.lit (.bool true)], args := [d1, d2, d3] }
  | _ => none }
def hostfixFixesRow : OpenClaim := { program := "ytanpmebamgnhbaa", sum := "95b96f41b0e4a8a296ef0e8755c4177e0f15c7de15e9c2d6cb3d9b277276ff41", func := "abutment/abutmentlaw32.HostfixFixes", spec := "hostfixFixes", inPlace := ["internal/bytealg.IndexByteString"], unfollowed := true, recurses := true, apart := false }
def HostfixFixesSaid : Prop := hostfixFixesRow.holds Try.pinned (OpenSpec.ofChange hostfixFixesSpec)

/-- ITS FALSE NEIGHBOUR: 'it returns false'. Refute it at one input. -/
def hostfixFixesWrong : ChangeSpec := { name := "hostfixFixes", fn := fun _ => fun
  | [d1, d2, d3] => { results := [.lit (.bool false)], args := [d1, d2, d3] }
  | _ => none }
def HostfixFixesWrongFalsely : Prop := hostfixFixesRow.holds Try.pinned (OpenSpec.ofChange hostfixFixesWrong)

/-- 'abutmentlaw29.HopLeaves': WHATEVER THE INPUT: true; the input reads as it did. -/
def hopLeavesSpec : ChangeSpec := { name := "hopLeaves", fn := fun _ => fun
  | [d] => { results := [.lit (.bool true)], args := [d] }
  | _ => none }
def hopLeavesRow : OpenClaim := { program := "ytanpmebamgnhbaa", sum := "95b96f41b0e4a8a296ef0e8755c4177e0f15c7de15e9c2d6cb3d9b277276ff41", func := "abutment/abutmentlaw29.HopLeaves", spec := "hopLeaves", inPlace := ["internal/abi.NoEscape", "internal/bytealg.MakeNoZero"], unfollowed := true, recurses := true, apart := false }
def HopLeavesSaid : Prop := hopLeavesRow.holds Try.pinned (OpenSpec.ofChange hopLeavesSpec)

/-- ITS FALSE NEIGHBOUR: 'it returns false'. Refute it at one input. -/
def hopLeavesWrong : ChangeSpec := { name := "hopLeaves", fn := fun _ => fun
  | [d] => { results := [.lit (.bool false)], args := [d] }
  | _ => none }
def HopLeavesWrongFalsely : Prop := hopLeavesRow.holds Try.pinned (OpenSpec.ofChange hopLeavesWrong)

/-- 'abutmentlaw32.HostfixOne': WHATEVER THE INPUT: true; the input reads as it did. -/
def hostfixOneSpec : ChangeSpec := { name := "hostfixOne", fn := fun _ => fun
  | [d1, d2, d3] => { results := [.lit (.bool true)], args := [d1, d2, d3] }
  | _ => none }
def hostfixOneRow : OpenClaim := { program := "ytanpmebamgnhbaa", sum := "95b96f41b0e4a8a296ef0e8755c4177e0f15c7de15e9c2d6cb3d9b277276ff41", func := "abutment/abutmentlaw32.HostfixOne", spec := "hostfixOne", inPlace := ["internal/bytealg.IndexByteString"], unfollowed := true, recurses := true, apart := false }
def HostfixOneSaid : Prop := hostfixOneRow.holds Try.pinned (OpenSpec.ofChange hostfixOneSpec)

/-- ITS FALSE NEIGHBOUR: 'it returns false'. Refute it at one input. -/
def hostfixOneWrong : ChangeSpec := { name := "hostfixOne", fn := fun _ => fun
  | [d1, d2, d3] => { results := [.lit (.bool false)], args := [d1, d2, d3] }
  | _ => none }
def HostfixOneWrongFalsely : Prop := hostfixOneRow.holds Try.pinned (OpenSpec.ofChange hostfixOneWrong)

/-- 'abutmentlaw13.ConfigRight': WHATEVER THE INPUT: true; the input reads as it did. -/
def configRightSpec : ChangeSpec := { name := "configRight", fn := fun _ => fun
  | [d] => { results := [.lit (.bool true)], args := [d] }
  | _ => none }
def configRightRow : OpenClaim := { program := "ytanpmebamgnhbaa", sum := "95b96f41b0e4a8a296ef0e8755c4177e0f15c7de15e9c2d6cb3d9b277276ff41", func := "abutment/abutmentlaw13.ConfigRight", spec := "configRight", inPlace := ["internal/bytealg.IndexByteString", "internal/abi.NoEscape", "internal/bytealg.MakeNoZero"], unfollowed := true, recurses := true, apart := false }
def ConfigRightSaid : Prop := configRightRow.holds Try.pinned (OpenSpec.ofChange configRightSpec)

/-- ITS FALSE NEIGHBOUR: 'it returns false'. Refute it at one input. -/
def configRightWrong : ChangeSpec := { name := "configRight", fn := fun _ => fun
  | [d] => { results := [.lit (.bool false)], args := [d] }
  | _ => none }
def ConfigRightWrongFalsely : Prop := configRightRow.holds Try.pinned (OpenSpec.ofChange configRightWrong)

/-- 'abutmentlaw19.CodingChunked': WHATEVER THE INPUT: true; the input reads as it did. -/
def codingChunkedSpec : ChangeSpec := { name := "codingChunked", fn := fun _ => fun
  | [d] => { results := [.lit (.bool true)], args := [d] }
  | _ => none }
def codingChunkedRow : OpenClaim := { program := "ytanpmebamgnhbaa", sum := "95b96f41b0e4a8a296ef0e8755c4177e0f15c7de15e9c2d6cb3d9b277276ff41", func := "abutment/abutmentlaw19.CodingChunked", spec := "codingChunked", inPlace := ["internal/abi.NoEscape", "internal/bytealg.MakeNoZero"], unfollowed := true, recurses := true, apart := false }
def CodingChunkedSaid : Prop := codingChunkedRow.holds Try.pinned (OpenSpec.ofChange codingChunkedSpec)

/-- ITS FALSE NEIGHBOUR: 'it returns false'. Refute it at one input. -/
def codingChunkedWrong : ChangeSpec := { name := "codingChunked", fn := fun _ => fun
  | [d] => { results := [.lit (.bool false)], args := [d] }
  | _ => none }
def CodingChunkedWrongFalsely : Prop := codingChunkedRow.holds Try.pinned (OpenSpec.ofChange codingChunkedWrong)

/-- 'abutmentlaw21.CacheAsks': WHATEVER THE INPUT: true; the input reads as it did. -/
def cacheAsksSpec : ChangeSpec := { name := "cacheAsks", fn := fun _ => fun
  | [d1, d2] => { results := [.lit (.bool true)], args := [d1, d2] }
  | _ => none }
def cacheAsksRow : OpenClaim := { program := "ytanpmebamgnhbaa", sum := "95b96f41b0e4a8a296ef0e8755c4177e0f15c7de15e9c2d6cb3d9b277276ff41", func := "abutment/abutmentlaw21.CacheAsks", spec := "cacheAsks", inPlace := ["internal/abi.NoEscape", "internal/bytealg.MakeNoZero"], unfollowed := true, recurses := true, apart := false }
def CacheAsksSaid : Prop := cacheAsksRow.holds Try.pinned (OpenSpec.ofChange cacheAsksSpec)

/-- ITS FALSE NEIGHBOUR: 'it returns false'. Refute it at one input. -/
def cacheAsksWrong : ChangeSpec := { name := "cacheAsks", fn := fun _ => fun
  | [d1, d2] => { results := [.lit (.bool false)], args := [d1, d2] }
  | _ => none }
def CacheAsksWrongFalsely : Prop := cacheAsksRow.holds Try.pinned (OpenSpec.ofChange cacheAsksWrong)

/-- 'abutmentlaw19.CodingOnly': WHATEVER THE INPUT: true; the input reads as it did. -/
def codingOnlySpec : ChangeSpec := { name := "codingOnly", fn := fun _ => fun
  | [d1, d2] => { results := [.lit (.bool true)], args := [d1, d2] }
  | _ => none }
def codingOnlyRow : OpenClaim := { program := "ytanpmebamgnhbaa", sum := "95b96f41b0e4a8a296ef0e8755c4177e0f15c7de15e9c2d6cb3d9b277276ff41", func := "abutment/abutmentlaw19.CodingOnly", spec := "codingOnly", inPlace := ["internal/abi.NoEscape", "internal/bytealg.MakeNoZero"], unfollowed := true, recurses := true, apart := false }
def CodingOnlySaid : Prop := codingOnlyRow.holds Try.pinned (OpenSpec.ofChange codingOnlySpec)

/-- ITS FALSE NEIGHBOUR: 'it returns false'. Refute it at one input. -/
def codingOnlyWrong : ChangeSpec := { name := "codingOnly", fn := fun _ => fun
  | [d1, d2] => { results := [.lit (.bool false)], args := [d1, d2] }
  | _ => none }
def CodingOnlyWrongFalsely : Prop := codingOnlyRow.holds Try.pinned (OpenSpec.ofChange codingOnlyWrong)

/-- 'abutmentlaw51.DiffHeads': WHATEVER THE INPUT: true; the input reads as it did. -/
def diffHeadsSpec : ChangeSpec := { name := "diffHeads", fn := fun _ => fun
  | [d1, d2] => { results := [.lit (.bool true)], args := [d1, d2] }
  | _ => none }
def diffHeadsRow : OpenClaim := { program := "ytanpmebamgnhbaa", sum := "95b96f41b0e4a8a296ef0e8755c4177e0f15c7de15e9c2d6cb3d9b277276ff41", func := "abutment/abutmentlaw51.DiffHeads", spec := "diffHeads", inPlace := ["internal/abi.NoEscape", "internal/bytealg.MakeNoZero"], unfollowed := true, recurses := true, apart := false }
def DiffHeadsSaid : Prop := diffHeadsRow.holds Try.pinned (OpenSpec.ofChange diffHeadsSpec)

/-- ITS FALSE NEIGHBOUR: 'it returns false'. Refute it at one input. -/
def diffHeadsWrong : ChangeSpec := { name := "diffHeads", fn := fun _ => fun
  | [d1, d2] => { results := [.lit (.bool false)], args := [d1, d2] }
  | _ => none }
def DiffHeadsWrongFalsely : Prop := diffHeadsRow.holds Try.pinned (OpenSpec.ofChange diffHeadsWrong)

/-- 'abutmentlaw21.CacheParses': WHATEVER THE INPUT: true; the input reads as it did. -/
def cacheParsesSpec : ChangeSpec := { name := "cacheParses", fn := fun _ => fun
  | [d1, d2] => { results := [.lit (.bool true)], args := [d1, d2] }
  | _ => none }
def cacheParsesRow : OpenClaim := { program := "ytanpmebamgnhbaa", sum := "95b96f41b0e4a8a296ef0e8755c4177e0f15c7de15e9c2d6cb3d9b277276ff41", func := "abutment/abutmentlaw21.CacheParses", spec := "cacheParses", inPlace := ["internal/abi.NoEscape", "internal/bytealg.MakeNoZero"], unfollowed := true, recurses := true, apart := false }
def CacheParsesSaid : Prop := cacheParsesRow.holds Try.pinned (OpenSpec.ofChange cacheParsesSpec)

/-- ITS FALSE NEIGHBOUR: 'it returns false'. Refute it at one input. -/
def cacheParsesWrong : ChangeSpec := { name := "cacheParses", fn := fun _ => fun
  | [d1, d2] => { results := [.lit (.bool false)], args := [d1, d2] }
  | _ => none }
def CacheParsesWrongFalsely : Prop := cacheParsesRow.holds Try.pinned (OpenSpec.ofChange cacheParsesWrong)

/-- 'abutmentlaw21.CacheBack': WHATEVER THE INPUT: true; the input reads as it did. -/
def cacheBackSpec : ChangeSpec := { name := "cacheBack", fn := fun _ => fun
  | [d] => { results := [.lit (.bool true)], args := [d] }
  | _ => none }
def cacheBackRow : OpenClaim := { program := "ytanpmebamgnhbaa", sum := "95b96f41b0e4a8a296ef0e8755c4177e0f15c7de15e9c2d6cb3d9b277276ff41", func := "abutment/abutmentlaw21.CacheBack", spec := "cacheBack", inPlace := ["internal/abi.NoEscape", "internal/bytealg.MakeNoZero"], unfollowed := true, recurses := true, apart := false }
def CacheBackSaid : Prop := cacheBackRow.holds Try.pinned (OpenSpec.ofChange cacheBackSpec)

/-- ITS FALSE NEIGHBOUR: 'it returns false'. Refute it at one input. -/
def cacheBackWrong : ChangeSpec := { name := "cacheBack", fn := fun _ => fun
  | [d] => { results := [.lit (.bool false)], args := [d] }
  | _ => none }
def CacheBackWrongFalsely : Prop := cacheBackRow.holds Try.pinned (OpenSpec.ofChange cacheBackWrong)

/-- 'abutmentlaw06.HttpdateParses': WHATEVER THE INPUT: true; the input reads as it did. -/
def httpdateParsesSpec : ChangeSpec := { name := "httpdateParses", fn := fun _ => fun
  | [d1, d2] => { results := [.lit (.bool true)], args := [d1, d2] }
  | _ => none }
def httpdateParsesRow : OpenClaim := { program := "ytanpmebamgnhbaa", sum := "95b96f41b0e4a8a296ef0e8755c4177e0f15c7de15e9c2d6cb3d9b277276ff41", func := "abutment/abutmentlaw06.HttpdateParses", spec := "httpdateParses", inPlace := ["internal/abi.NoEscape", "internal/bytealg.MakeNoZero"], unfollowed := true, recurses := true, apart := false }
def HttpdateParsesSaid : Prop := httpdateParsesRow.holds Try.pinned (OpenSpec.ofChange httpdateParsesSpec)

/-- ITS FALSE NEIGHBOUR: 'it returns false'. Refute it at one input. -/
def httpdateParsesWrong : ChangeSpec := { name := "httpdateParses", fn := fun _ => fun
  | [d1, d2] => { results := [.lit (.bool false)], args := [d1, d2] }
  | _ => none }
def HttpdateParsesWrongFalsely : Prop := httpdateParsesRow.holds Try.pinned (OpenSpec.ofChange httpdateParsesWrong)

/-- 'abutmentlaw06.HttpdatePrints': WHATEVER THE INPUT: true; the input reads as it did. -/
def httpdatePrintsSpec : ChangeSpec := { name := "httpdatePrints", fn := fun _ => fun
  | [d] => { results := [.lit (.bool true)], args := [d] }
  | _ => none }
def httpdatePrintsRow : OpenClaim := { program := "ytanpmebamgnhbaa", sum := "95b96f41b0e4a8a296ef0e8755c4177e0f15c7de15e9c2d6cb3d9b277276ff41", func := "abutment/abutmentlaw06.HttpdatePrints", spec := "httpdatePrints", inPlace := ["internal/abi.NoEscape", "internal/bytealg.MakeNoZero"], unfollowed := true, recurses := true, apart := false }
def HttpdatePrintsSaid : Prop := httpdatePrintsRow.holds Try.pinned (OpenSpec.ofChange httpdatePrintsSpec)

/-- ITS FALSE NEIGHBOUR: 'it returns false'. Refute it at one input. -/
def httpdatePrintsWrong : ChangeSpec := { name := "httpdatePrints", fn := fun _ => fun
  | [d] => { results := [.lit (.bool false)], args := [d] }
  | _ => none }
def HttpdatePrintsWrongFalsely : Prop := httpdatePrintsRow.holds Try.pinned (OpenSpec.ofChange httpdatePrintsWrong)

/-- 'abutmentlaw06.HttpdateBack': WHATEVER THE INPUT: true; the input reads as it did. -/
def httpdateBackSpec : ChangeSpec := { name := "httpdateBack", fn := fun _ => fun
  | [d1, d2] => { results := [.lit (.bool true)], args := [d1, d2] }
  | _ => none }
def httpdateBackRow : OpenClaim := { program := "ytanpmebamgnhbaa", sum := "95b96f41b0e4a8a296ef0e8755c4177e0f15c7de15e9c2d6cb3d9b277276ff41", func := "abutment/abutmentlaw06.HttpdateBack", spec := "httpdateBack", inPlace := ["internal/abi.NoEscape", "internal/bytealg.MakeNoZero"], unfollowed := true, recurses := true, apart := false }
def HttpdateBackSaid : Prop := httpdateBackRow.holds Try.pinned (OpenSpec.ofChange httpdateBackSpec)

/-- ITS FALSE NEIGHBOUR: 'it returns false'. Refute it at one input. -/
def httpdateBackWrong : ChangeSpec := { name := "httpdateBack", fn := fun _ => fun
  | [d1, d2] => { results := [.lit (.bool false)], args := [d1, d2] }
  | _ => none }
def HttpdateBackWrongFalsely : Prop := httpdateBackRow.holds Try.pinned (OpenSpec.ofChange httpdateBackWrong)

/-- 'abutmentlaw17.ConnectionWords': WHATEVER THE INPUT: true; the input reads as it did. -/
def connectionWordsSpec : ChangeSpec := { name := "connectionWords", fn := fun _ => fun
  | [d1, d2, d3] => { results := [.lit (.bool true)], args := [d1, d2, d3] }
  | _ => none }
def connectionWordsRow : OpenClaim := { program := "ytanpmebamgnhbaa", sum := "95b96f41b0e4a8a296ef0e8755c4177e0f15c7de15e9c2d6cb3d9b277276ff41", func := "abutment/abutmentlaw17.ConnectionWords", spec := "connectionWords", inPlace := ["internal/abi.NoEscape", "internal/bytealg.MakeNoZero", "internal/bytealg.IndexByteString", "internal/bytealg.IndexString"], unfollowed := true, recurses := true, named := ["internal/bytealg.MaxLen"], apart := false }
def ConnectionWordsSaid : Prop := connectionWordsRow.holds Try.pinned (OpenSpec.ofChange connectionWordsSpec)

/-- ITS FALSE NEIGHBOUR: 'it returns false'. Refute it at one input. -/
def connectionWordsWrong : ChangeSpec := { name := "connectionWords", fn := fun _ => fun
  | [d1, d2, d3] => { results := [.lit (.bool false)], args := [d1, d2, d3] }
  | _ => none }
def ConnectionWordsWrongFalsely : Prop := connectionWordsRow.holds Try.pinned (OpenSpec.ofChange connectionWordsWrong)

/-- 'abutmentlaw17.ConnectionAlive': WHATEVER THE INPUT: true; the input reads as it did. -/
def connectionAliveSpec : ChangeSpec := { name := "connectionAlive", fn := fun _ => fun
  | [d] => { results := [.lit (.bool true)], args := [d] }
  | _ => none }
def connectionAliveRow : OpenClaim := { program := "ytanpmebamgnhbaa", sum := "95b96f41b0e4a8a296ef0e8755c4177e0f15c7de15e9c2d6cb3d9b277276ff41", func := "abutment/abutmentlaw17.ConnectionAlive", spec := "connectionAlive", inPlace := ["internal/abi.NoEscape", "internal/bytealg.MakeNoZero", "internal/bytealg.IndexByteString", "internal/bytealg.IndexString"], unfollowed := true, recurses := true, named := ["internal/bytealg.MaxLen"], apart := false }
def ConnectionAliveSaid : Prop := connectionAliveRow.holds Try.pinned (OpenSpec.ofChange connectionAliveSpec)

/-- ITS FALSE NEIGHBOUR: 'it returns false'. Refute it at one input. -/
def connectionAliveWrong : ChangeSpec := { name := "connectionAlive", fn := fun _ => fun
  | [d] => { results := [.lit (.bool false)], args := [d] }
  | _ => none }
def ConnectionAliveWrongFalsely : Prop := connectionAliveRow.holds Try.pinned (OpenSpec.ofChange connectionAliveWrong)

/-- 'abutmentlaw17.ConnectionClose': WHATEVER THE INPUT: true; the input reads as it did. -/
def connectionCloseSpec : ChangeSpec := { name := "connectionClose", fn := fun _ => fun
  | [d1, d2] => { results := [.lit (.bool true)], args := [d1, d2] }
  | _ => none }
def connectionCloseRow : OpenClaim := { program := "ytanpmebamgnhbaa", sum := "95b96f41b0e4a8a296ef0e8755c4177e0f15c7de15e9c2d6cb3d9b277276ff41", func := "abutment/abutmentlaw17.ConnectionClose", spec := "connectionClose", inPlace := ["internal/abi.NoEscape", "internal/bytealg.MakeNoZero", "internal/bytealg.IndexByteString", "internal/bytealg.IndexString"], unfollowed := true, recurses := true, named := ["internal/bytealg.MaxLen"], apart := false }
def ConnectionCloseSaid : Prop := connectionCloseRow.holds Try.pinned (OpenSpec.ofChange connectionCloseSpec)

/-- ITS FALSE NEIGHBOUR: 'it returns false'. Refute it at one input. -/
def connectionCloseWrong : ChangeSpec := { name := "connectionClose", fn := fun _ => fun
  | [d1, d2] => { results := [.lit (.bool false)], args := [d1, d2] }
  | _ => none }
def ConnectionCloseWrongFalsely : Prop := connectionCloseRow.holds Try.pinned (OpenSpec.ofChange connectionCloseWrong)

/-- 'abutmentlaw30.DatefixFixes': WHATEVER THE INPUT: true; the input reads as it did. -/
def datefixFixesSpec : ChangeSpec := { name := "datefixFixes", fn := fun _ => fun
  | [d1, d2, d3] => { results := [.lit (.bool true)], args := [d1, d2, d3] }
  | _ => none }
def datefixFixesRow : OpenClaim := { program := "ytanpmebamgnhbaa", sum := "95b96f41b0e4a8a296ef0e8755c4177e0f15c7de15e9c2d6cb3d9b277276ff41", func := "abutment/abutmentlaw30.DatefixFixes", spec := "datefixFixes", inPlace := ["internal/abi.NoEscape", "internal/bytealg.MakeNoZero"], unfollowed := true, recurses := true, apart := false }
def DatefixFixesSaid : Prop := datefixFixesRow.holds Try.pinned (OpenSpec.ofChange datefixFixesSpec)

/-- ITS FALSE NEIGHBOUR: 'it returns false'. Refute it at one input. -/
def datefixFixesWrong : ChangeSpec := { name := "datefixFixes", fn := fun _ => fun
  | [d1, d2, d3] => { results := [.lit (.bool false)], args := [d1, d2, d3] }
  | _ => none }
def DatefixFixesWrongFalsely : Prop := datefixFixesRow.holds Try.pinned (OpenSpec.ofChange datefixFixesWrong)

/-- 'abutmentlaw30.DatefixStays': WHATEVER THE INPUT: true; the input reads as it did. -/
def datefixStaysSpec : ChangeSpec := { name := "datefixStays", fn := fun _ => fun
  | [d1, d2, d3] => { results := [.lit (.bool true)], args := [d1, d2, d3] }
  | _ => none }
def datefixStaysRow : OpenClaim := { program := "ytanpmebamgnhbaa", sum := "95b96f41b0e4a8a296ef0e8755c4177e0f15c7de15e9c2d6cb3d9b277276ff41", func := "abutment/abutmentlaw30.DatefixStays", spec := "datefixStays", inPlace := ["internal/abi.NoEscape", "internal/bytealg.MakeNoZero"], unfollowed := true, recurses := true, apart := false }
def DatefixStaysSaid : Prop := datefixStaysRow.holds Try.pinned (OpenSpec.ofChange datefixStaysSpec)

/-- ITS FALSE NEIGHBOUR: 'it returns false'. Refute it at one input. -/
def datefixStaysWrong : ChangeSpec := { name := "datefixStays", fn := fun _ => fun
  | [d1, d2, d3] => { results := [.lit (.bool false)], args := [d1, d2, d3] }
  | _ => none }
def DatefixStaysWrongFalsely : Prop := datefixStaysRow.holds Try.pinned (OpenSpec.ofChange datefixStaysWrong)

/- THE SECOND FORM. 'bulk': how many values and letters a reading holds, each counted each time it is reached (what is shared counts as often as it is met; a slice's spare places count too). A statement '..UptoSaid' is the law's where the arguments, and the package variables that the reading takes, are together of bulk at most 1048576: NARROWER than '..Said'. Prove '..Said' where nothing that the law and all that it calls make is longer than what came in: it says more and counts as full. Else prove '..UptoSaid'. A law counts once. -/
mutual
def uptoBulk {H : Type} : DataW H → Nat
  | .lit (.string bytes) => bytes.length + 1
  | .lit _ => 1
  | .nil => 1
  | .ptr d => uptoBulk d + 1
  | .slice elems spare => uptoBulkAll elems + uptoBulkAll spare + 1
  | .agg parts => uptoBulkAll parts + 1
  | .iface _ d => uptoBulk d + 1
  | .map entries => uptoBulkEntries entries + 1
  | .held _ => 1
def uptoBulkAll {H : Type} : List (DataW H) → Nat
  | [] => 0
  | d :: r => uptoBulk d + uptoBulkAll r
def uptoBulkEntries {H : Type} : List (Lit × DataW H) → Nat
  | [] => 0
  | x :: r => uptoBulkEntry x + uptoBulkEntries r
def uptoBulkEntry {H : Type} : Lit × DataW H → Nat
  | (.string bytes, d) => bytes.length + uptoBulk d + 1
  | (_, d) => uptoBulk d + 1
 end
def uptoSmall : (H : Type) → List (DataW H) → Bool := fun _ ds => decide (uptoBulkAll ds ≤ 1048576)
def OpenSpec.upto (s : _root_.Go.ChangeSpec) : _root_.Go.OpenSpec := { _root_.Go.OpenSpec.ofChange s with cond := some uptoSmall }

/-- 'abutmentlaw07.ListsSplit', WHERE WHAT IT READS IS OF BULK AT MOST 1048576: true; the input reads as it did. -/
def listsSplitUptoRow : OpenClaim := { program := "ytanpmebamgnhbaa", sum := "95b96f41b0e4a8a296ef0e8755c4177e0f15c7de15e9c2d6cb3d9b277276ff41", func := "abutment/abutmentlaw07.ListsSplit", spec := "listsSplit", inPlace := ["internal/abi.NoEscape", "internal/bytealg.MakeNoZero"], unfollowed := true, recurses := true, apart := false, narrowed := true }
def ListsSplitUptoSaid : Prop := listsSplitUptoRow.holds Try.pinned (OpenSpec.upto listsSplitSpec)

/-- 'abutmentlaw07.ListsJoin', WHERE WHAT IT READS IS OF BULK AT MOST 1048576: true; the input reads as it did. -/
def listsJoinUptoRow : OpenClaim := { program := "ytanpmebamgnhbaa", sum := "95b96f41b0e4a8a296ef0e8755c4177e0f15c7de15e9c2d6cb3d9b277276ff41", func := "abutment/abutmentlaw07.ListsJoin", spec := "listsJoin", inPlace := ["internal/abi.NoEscape", "internal/bytealg.MakeNoZero"], unfollowed := true, recurses := true, apart := false, narrowed := true }
def ListsJoinUptoSaid : Prop := listsJoinUptoRow.holds Try.pinned (OpenSpec.upto listsJoinSpec)

/-- 'abutmentlaw07.ListsBack', WHERE WHAT IT READS IS OF BULK AT MOST 1048576: true; the input reads as it did. -/
def listsBackUptoRow : OpenClaim := { program := "ytanpmebamgnhbaa", sum := "95b96f41b0e4a8a296ef0e8755c4177e0f15c7de15e9c2d6cb3d9b277276ff41", func := "abutment/abutmentlaw07.ListsBack", spec := "listsBack", inPlace := ["internal/abi.NoEscape", "internal/bytealg.MakeNoZero"], unfollowed := true, recurses := true, apart := false, narrowed := true }
def ListsBackUptoSaid : Prop := listsBackUptoRow.holds Try.pinned (OpenSpec.upto listsBackSpec)

/-- 'abutmentlaw11.HostParses', WHERE WHAT IT READS IS OF BULK AT MOST 1048576: true; the input reads as it did. -/
def hostParsesUptoRow : OpenClaim := { program := "ytanpmebamgnhbaa", sum := "95b96f41b0e4a8a296ef0e8755c4177e0f15c7de15e9c2d6cb3d9b277276ff41", func := "abutment/abutmentlaw11.HostParses", spec := "hostParses", inPlace := ["internal/bytealg.IndexByteString"], apart := false, narrowed := true }
def HostParsesUptoSaid : Prop := hostParsesUptoRow.holds Try.pinned (OpenSpec.upto hostParsesSpec)

/-- 'abutmentlaw11.HostText', WHERE WHAT IT READS IS OF BULK AT MOST 1048576: true; the input reads as it did. -/
def hostTextUptoRow : OpenClaim := { program := "ytanpmebamgnhbaa", sum := "95b96f41b0e4a8a296ef0e8755c4177e0f15c7de15e9c2d6cb3d9b277276ff41", func := "abutment/abutmentlaw11.HostText", spec := "hostText", inPlace := ["internal/bytealg.IndexByteString"], apart := false, narrowed := true }
def HostTextUptoSaid : Prop := hostTextUptoRow.holds Try.pinned (OpenSpec.upto hostTextSpec)

/-- 'abutmentlaw11.HostBack', WHERE WHAT IT READS IS OF BULK AT MOST 1048576: true; the input reads as it did. -/
def hostBackUptoRow : OpenClaim := { program := "ytanpmebamgnhbaa", sum := "95b96f41b0e4a8a296ef0e8755c4177e0f15c7de15e9c2d6cb3d9b277276ff41", func := "abutment/abutmentlaw11.HostBack", spec := "hostBack", inPlace := ["internal/bytealg.IndexByteString"], apart := false, narrowed := true }
def HostBackUptoSaid : Prop := hostBackUptoRow.holds Try.pinned (OpenSpec.upto hostBackSpec)

/-- 'abutmentlaw08.ParamsParse', WHERE WHAT IT READS IS OF BULK AT MOST 1048576: true; the input reads as it did. -/
def paramsParseUptoRow : OpenClaim := { program := "ytanpmebamgnhbaa", sum := "95b96f41b0e4a8a296ef0e8755c4177e0f15c7de15e9c2d6cb3d9b277276ff41", func := "abutment/abutmentlaw08.ParamsParse", spec := "paramsParse", unfollowed := true, recurses := true, apart := false, narrowed := true }
def ParamsParseUptoSaid : Prop := paramsParseUptoRow.holds Try.pinned (OpenSpec.upto paramsParseSpec)

/-- 'abutmentlaw08.ParamsPrint', WHERE WHAT IT READS IS OF BULK AT MOST 1048576: true; the input reads as it did. -/
def paramsPrintUptoRow : OpenClaim := { program := "ytanpmebamgnhbaa", sum := "95b96f41b0e4a8a296ef0e8755c4177e0f15c7de15e9c2d6cb3d9b277276ff41", func := "abutment/abutmentlaw08.ParamsPrint", spec := "paramsPrint", unfollowed := true, recurses := true, apart := false, narrowed := true }
def ParamsPrintUptoSaid : Prop := paramsPrintUptoRow.holds Try.pinned (OpenSpec.upto paramsPrintSpec)

/-- 'abutmentlaw08.ParamsBack', WHERE WHAT IT READS IS OF BULK AT MOST 1048576: true; the input reads as it did. -/
def paramsBackUptoRow : OpenClaim := { program := "ytanpmebamgnhbaa", sum := "95b96f41b0e4a8a296ef0e8755c4177e0f15c7de15e9c2d6cb3d9b277276ff41", func := "abutment/abutmentlaw08.ParamsBack", spec := "paramsBack", unfollowed := true, recurses := true, apart := false, narrowed := true }
def ParamsBackUptoSaid : Prop := paramsBackUptoRow.holds Try.pinned (OpenSpec.upto paramsBackSpec)

/-- 'abutmentlaw02.DigitsRead', WHERE WHAT IT READS IS OF BULK AT MOST 1048576: true; the input reads as it did. -/
def digitsReadUptoRow : OpenClaim := { program := "ytanpmebamgnhbaa", sum := "95b96f41b0e4a8a296ef0e8755c4177e0f15c7de15e9c2d6cb3d9b277276ff41", func := "abutment/abutmentlaw02.DigitsRead", spec := "digitsRead", inPlace := ["internal/abi.NoEscape", "internal/bytealg.MakeNoZero"], apart := false, narrowed := true }
def DigitsReadUptoSaid : Prop := digitsReadUptoRow.holds Try.pinned (OpenSpec.upto digitsReadSpec)

/-- 'abutmentlaw14.ChunkParses', WHERE WHAT IT READS IS OF BULK AT MOST 1048576: true; the input reads as it did. -/
def chunkParsesUptoRow : OpenClaim := { program := "ytanpmebamgnhbaa", sum := "95b96f41b0e4a8a296ef0e8755c4177e0f15c7de15e9c2d6cb3d9b277276ff41", func := "abutment/abutmentlaw14.ChunkParses", spec := "chunkParses", inPlace := ["internal/bytealg.IndexByteString"], unfollowed := true, recurses := true, apart := false, narrowed := true }
def ChunkParsesUptoSaid : Prop := chunkParsesUptoRow.holds Try.pinned (OpenSpec.upto chunkParsesSpec)

/-- 'abutmentlaw14.ChunkSizes', WHERE WHAT IT READS IS OF BULK AT MOST 1048576: true; the input reads as it did. -/
def chunkSizesUptoRow : OpenClaim := { program := "ytanpmebamgnhbaa", sum := "95b96f41b0e4a8a296ef0e8755c4177e0f15c7de15e9c2d6cb3d9b277276ff41", func := "abutment/abutmentlaw14.ChunkSizes", spec := "chunkSizes", inPlace := ["internal/bytealg.IndexByteString"], unfollowed := true, recurses := true, apart := false, narrowed := true }
def ChunkSizesUptoSaid : Prop := chunkSizesUptoRow.holds Try.pinned (OpenSpec.upto chunkSizesSpec)

/-- 'abutmentlaw14.ChunkBack', WHERE WHAT IT READS IS OF BULK AT MOST 1048576: true; the input reads as it did. -/
def chunkBackUptoRow : OpenClaim := { program := "ytanpmebamgnhbaa", sum := "95b96f41b0e4a8a296ef0e8755c4177e0f15c7de15e9c2d6cb3d9b277276ff41", func := "abutment/abutmentlaw14.ChunkBack", spec := "chunkBack", inPlace := ["internal/bytealg.IndexByteString"], unfollowed := true, recurses := true, apart := false, narrowed := true }
def ChunkBackUptoSaid : Prop := chunkBackUptoRow.holds Try.pinned (OpenSpec.upto chunkBackSpec)

/-- 'abutmentlaw29.HopStrips', WHERE WHAT IT READS IS OF BULK AT MOST 1048576: true; the input reads as it did. -/
def hopStripsUptoRow : OpenClaim := { program := "ytanpmebamgnhbaa", sum := "95b96f41b0e4a8a296ef0e8755c4177e0f15c7de15e9c2d6cb3d9b277276ff41", func := "abutment/abutmentlaw29.HopStrips", spec := "hopStrips", inPlace := ["internal/abi.NoEscape", "internal/bytealg.MakeNoZero"], unfollowed := true, recurses := true, apart := false, narrowed := true }
def HopStripsUptoSaid : Prop := hopStripsUptoRow.holds Try.pinned (OpenSpec.upto hopStripsSpec)

/-- 'abutmentlaw32.HostfixFixes', WHERE WHAT IT READS IS OF BULK AT MOST 1048576: true; the input reads as it did. -/
def hostfixFixesUptoRow : OpenClaim := { program := "ytanpmebamgnhbaa", sum := "95b96f41b0e4a8a296ef0e8755c4177e0f15c7de15e9c2d6cb3d9b277276ff41", func := "abutment/abutmentlaw32.HostfixFixes", spec := "hostfixFixes", inPlace := ["internal/bytealg.IndexByteString"], unfollowed := true, recurses := true, apart := false, narrowed := true }
def HostfixFixesUptoSaid : Prop := hostfixFixesUptoRow.holds Try.pinned (OpenSpec.upto hostfixFixesSpec)

/-- 'abutmentlaw29.HopLeaves', WHERE WHAT IT READS IS OF BULK AT MOST 1048576: true; the input reads as it did. -/
def hopLeavesUptoRow : OpenClaim := { program := "ytanpmebamgnhbaa", sum := "95b96f41b0e4a8a296ef0e8755c4177e0f15c7de15e9c2d6cb3d9b277276ff41", func := "abutment/abutmentlaw29.HopLeaves", spec := "hopLeaves", inPlace := ["internal/abi.NoEscape", "internal/bytealg.MakeNoZero"], unfollowed := true, recurses := true, apart := false, narrowed := true }
def HopLeavesUptoSaid : Prop := hopLeavesUptoRow.holds Try.pinned (OpenSpec.upto hopLeavesSpec)

/-- 'abutmentlaw32.HostfixOne', WHERE WHAT IT READS IS OF BULK AT MOST 1048576: true; the input reads as it did. -/
def hostfixOneUptoRow : OpenClaim := { program := "ytanpmebamgnhbaa", sum := "95b96f41b0e4a8a296ef0e8755c4177e0f15c7de15e9c2d6cb3d9b277276ff41", func := "abutment/abutmentlaw32.HostfixOne", spec := "hostfixOne", inPlace := ["internal/bytealg.IndexByteString"], unfollowed := true, recurses := true, apart := false, narrowed := true }
def HostfixOneUptoSaid : Prop := hostfixOneUptoRow.holds Try.pinned (OpenSpec.upto hostfixOneSpec)

/-- 'abutmentlaw13.ConfigRight', WHERE WHAT IT READS IS OF BULK AT MOST 1048576: true; the input reads as it did. -/
def configRightUptoRow : OpenClaim := { program := "ytanpmebamgnhbaa", sum := "95b96f41b0e4a8a296ef0e8755c4177e0f15c7de15e9c2d6cb3d9b277276ff41", func := "abutment/abutmentlaw13.ConfigRight", spec := "configRight", inPlace := ["internal/bytealg.IndexByteString", "internal/abi.NoEscape", "internal/bytealg.MakeNoZero"], unfollowed := true, recurses := true, apart := false, narrowed := true }
def ConfigRightUptoSaid : Prop := configRightUptoRow.holds Try.pinned (OpenSpec.upto configRightSpec)

/-- 'abutmentlaw19.CodingChunked', WHERE WHAT IT READS IS OF BULK AT MOST 1048576: true; the input reads as it did. -/
def codingChunkedUptoRow : OpenClaim := { program := "ytanpmebamgnhbaa", sum := "95b96f41b0e4a8a296ef0e8755c4177e0f15c7de15e9c2d6cb3d9b277276ff41", func := "abutment/abutmentlaw19.CodingChunked", spec := "codingChunked", inPlace := ["internal/abi.NoEscape", "internal/bytealg.MakeNoZero"], unfollowed := true, recurses := true, apart := false, narrowed := true }
def CodingChunkedUptoSaid : Prop := codingChunkedUptoRow.holds Try.pinned (OpenSpec.upto codingChunkedSpec)

/-- 'abutmentlaw21.CacheAsks', WHERE WHAT IT READS IS OF BULK AT MOST 1048576: true; the input reads as it did. -/
def cacheAsksUptoRow : OpenClaim := { program := "ytanpmebamgnhbaa", sum := "95b96f41b0e4a8a296ef0e8755c4177e0f15c7de15e9c2d6cb3d9b277276ff41", func := "abutment/abutmentlaw21.CacheAsks", spec := "cacheAsks", inPlace := ["internal/abi.NoEscape", "internal/bytealg.MakeNoZero"], unfollowed := true, recurses := true, apart := false, narrowed := true }
def CacheAsksUptoSaid : Prop := cacheAsksUptoRow.holds Try.pinned (OpenSpec.upto cacheAsksSpec)

/-- 'abutmentlaw19.CodingOnly', WHERE WHAT IT READS IS OF BULK AT MOST 1048576: true; the input reads as it did. -/
def codingOnlyUptoRow : OpenClaim := { program := "ytanpmebamgnhbaa", sum := "95b96f41b0e4a8a296ef0e8755c4177e0f15c7de15e9c2d6cb3d9b277276ff41", func := "abutment/abutmentlaw19.CodingOnly", spec := "codingOnly", inPlace := ["internal/abi.NoEscape", "internal/bytealg.MakeNoZero"], unfollowed := true, recurses := true, apart := false, narrowed := true }
def CodingOnlyUptoSaid : Prop := codingOnlyUptoRow.holds Try.pinned (OpenSpec.upto codingOnlySpec)

/-- 'abutmentlaw51.DiffHeads', WHERE WHAT IT READS IS OF BULK AT MOST 1048576: true; the input reads as it did. -/
def diffHeadsUptoRow : OpenClaim := { program := "ytanpmebamgnhbaa", sum := "95b96f41b0e4a8a296ef0e8755c4177e0f15c7de15e9c2d6cb3d9b277276ff41", func := "abutment/abutmentlaw51.DiffHeads", spec := "diffHeads", inPlace := ["internal/abi.NoEscape", "internal/bytealg.MakeNoZero"], unfollowed := true, recurses := true, apart := false, narrowed := true }
def DiffHeadsUptoSaid : Prop := diffHeadsUptoRow.holds Try.pinned (OpenSpec.upto diffHeadsSpec)

/-- 'abutmentlaw21.CacheParses', WHERE WHAT IT READS IS OF BULK AT MOST 1048576: true; the input reads as it did. -/
def cacheParsesUptoRow : OpenClaim := { program := "ytanpmebamgnhbaa", sum := "95b96f41b0e4a8a296ef0e8755c4177e0f15c7de15e9c2d6cb3d9b277276ff41", func := "abutment/abutmentlaw21.CacheParses", spec := "cacheParses", inPlace := ["internal/abi.NoEscape", "internal/bytealg.MakeNoZero"], unfollowed := true, recurses := true, apart := false, narrowed := true }
def CacheParsesUptoSaid : Prop := cacheParsesUptoRow.holds Try.pinned (OpenSpec.upto cacheParsesSpec)

/-- 'abutmentlaw21.CacheBack', WHERE WHAT IT READS IS OF BULK AT MOST 1048576: true; the input reads as it did. -/
def cacheBackUptoRow : OpenClaim := { program := "ytanpmebamgnhbaa", sum := "95b96f41b0e4a8a296ef0e8755c4177e0f15c7de15e9c2d6cb3d9b277276ff41", func := "abutment/abutmentlaw21.CacheBack", spec := "cacheBack", inPlace := ["internal/abi.NoEscape", "internal/bytealg.MakeNoZero"], unfollowed := true, recurses := true, apart := false, narrowed := true }
def CacheBackUptoSaid : Prop := cacheBackUptoRow.holds Try.pinned (OpenSpec.upto cacheBackSpec)

/-- 'abutmentlaw06.HttpdateParses', WHERE WHAT IT READS IS OF BULK AT MOST 1048576: true; the input reads as it did. -/
def httpdateParsesUptoRow : OpenClaim := { program := "ytanpmebamgnhbaa", sum := "95b96f41b0e4a8a296ef0e8755c4177e0f15c7de15e9c2d6cb3d9b277276ff41", func := "abutment/abutmentlaw06.HttpdateParses", spec := "httpdateParses", inPlace := ["internal/abi.NoEscape", "internal/bytealg.MakeNoZero"], unfollowed := true, recurses := true, apart := false, narrowed := true }
def HttpdateParsesUptoSaid : Prop := httpdateParsesUptoRow.holds Try.pinned (OpenSpec.upto httpdateParsesSpec)

/-- 'abutmentlaw06.HttpdatePrints', WHERE WHAT IT READS IS OF BULK AT MOST 1048576: true; the input reads as it did. -/
def httpdatePrintsUptoRow : OpenClaim := { program := "ytanpmebamgnhbaa", sum := "95b96f41b0e4a8a296ef0e8755c4177e0f15c7de15e9c2d6cb3d9b277276ff41", func := "abutment/abutmentlaw06.HttpdatePrints", spec := "httpdatePrints", inPlace := ["internal/abi.NoEscape", "internal/bytealg.MakeNoZero"], unfollowed := true, recurses := true, apart := false, narrowed := true }
def HttpdatePrintsUptoSaid : Prop := httpdatePrintsUptoRow.holds Try.pinned (OpenSpec.upto httpdatePrintsSpec)

/-- 'abutmentlaw06.HttpdateBack', WHERE WHAT IT READS IS OF BULK AT MOST 1048576: true; the input reads as it did. -/
def httpdateBackUptoRow : OpenClaim := { program := "ytanpmebamgnhbaa", sum := "95b96f41b0e4a8a296ef0e8755c4177e0f15c7de15e9c2d6cb3d9b277276ff41", func := "abutment/abutmentlaw06.HttpdateBack", spec := "httpdateBack", inPlace := ["internal/abi.NoEscape", "internal/bytealg.MakeNoZero"], unfollowed := true, recurses := true, apart := false, narrowed := true }
def HttpdateBackUptoSaid : Prop := httpdateBackUptoRow.holds Try.pinned (OpenSpec.upto httpdateBackSpec)

/-- 'abutmentlaw17.ConnectionWords', WHERE WHAT IT READS IS OF BULK AT MOST 1048576: true; the input reads as it did. -/
def connectionWordsUptoRow : OpenClaim := { program := "ytanpmebamgnhbaa", sum := "95b96f41b0e4a8a296ef0e8755c4177e0f15c7de15e9c2d6cb3d9b277276ff41", func := "abutment/abutmentlaw17.ConnectionWords", spec := "connectionWords", inPlace := ["internal/abi.NoEscape", "internal/bytealg.MakeNoZero", "internal/bytealg.IndexByteString", "internal/bytealg.IndexString"], unfollowed := true, recurses := true, named := ["internal/bytealg.MaxLen"], apart := false, narrowed := true }
def ConnectionWordsUptoSaid : Prop := connectionWordsUptoRow.holds Try.pinned (OpenSpec.upto connectionWordsSpec)

/-- 'abutmentlaw17.ConnectionAlive', WHERE WHAT IT READS IS OF BULK AT MOST 1048576: true; the input reads as it did. -/
def connectionAliveUptoRow : OpenClaim := { program := "ytanpmebamgnhbaa", sum := "95b96f41b0e4a8a296ef0e8755c4177e0f15c7de15e9c2d6cb3d9b277276ff41", func := "abutment/abutmentlaw17.ConnectionAlive", spec := "connectionAlive", inPlace := ["internal/abi.NoEscape", "internal/bytealg.MakeNoZero", "internal/bytealg.IndexByteString", "internal/bytealg.IndexString"], unfollowed := true, recurses := true, named := ["internal/bytealg.MaxLen"], apart := false, narrowed := true }
def ConnectionAliveUptoSaid : Prop := connectionAliveUptoRow.holds Try.pinned (OpenSpec.upto connectionAliveSpec)

/-- 'abutmentlaw17.ConnectionClose', WHERE WHAT IT READS IS OF BULK AT MOST 1048576: true; the input reads as it did. -/
def connectionCloseUptoRow : OpenClaim := { program := "ytanpmebamgnhbaa", sum := "95b96f41b0e4a8a296ef0e8755c4177e0f15c7de15e9c2d6cb3d9b277276ff41", func := "abutment/abutmentlaw17.ConnectionClose", spec := "connectionClose", inPlace := ["internal/abi.NoEscape", "internal/bytealg.MakeNoZero", "internal/bytealg.IndexByteString", "internal/bytealg.IndexString"], unfollowed := true, recurses := true, named := ["internal/bytealg.MaxLen"], apart := false, narrowed := true }
def ConnectionCloseUptoSaid : Prop := connectionCloseUptoRow.holds Try.pinned (OpenSpec.upto connectionCloseSpec)

/-- 'abutmentlaw30.DatefixFixes', WHERE WHAT IT READS IS OF BULK AT MOST 1048576: true; the input reads as it did. -/
def datefixFixesUptoRow : OpenClaim := { program := "ytanpmebamgnhbaa", sum := "95b96f41b0e4a8a296ef0e8755c4177e0f15c7de15e9c2d6cb3d9b277276ff41", func := "abutment/abutmentlaw30.DatefixFixes", spec := "datefixFixes", inPlace := ["internal/abi.NoEscape", "internal/bytealg.MakeNoZero"], unfollowed := true, recurses := true, apart := false, narrowed := true }
def DatefixFixesUptoSaid : Prop := datefixFixesUptoRow.holds Try.pinned (OpenSpec.upto datefixFixesSpec)

/-- 'abutmentlaw30.DatefixStays', WHERE WHAT IT READS IS OF BULK AT MOST 1048576: true; the input reads as it did. -/
def datefixStaysUptoRow : OpenClaim := { program := "ytanpmebamgnhbaa", sum := "95b96f41b0e4a8a296ef0e8755c4177e0f15c7de15e9c2d6cb3d9b277276ff41", func := "abutment/abutmentlaw30.DatefixStays", spec := "datefixStays", inPlace := ["internal/abi.NoEscape", "internal/bytealg.MakeNoZero"], unfollowed := true, recurses := true, apart := false, narrowed := true }
def DatefixStaysUptoSaid : Prop := datefixStaysUptoRow.holds Try.pinned (OpenSpec.upto datefixStaysSpec)

end Rows
end Go.Proofs.Ytanpmebamgnhbaa
