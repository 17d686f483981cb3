import Derived.Test.YtoegojolimaodaaShHE
import Derived.Test.YtoegojolimaodaaRows
import Derived.JoinedOf
import Derived.KernelRfl
import Derived.Shelf.Strings.Builder1
import Derived.Shelf.Strings.Builder2
import Derived.Shelf.Strings.OnBuilder
import Derived.Shelf.Strings.BuilderF
import Derived.Shelf.Strings.BuilderK
import Derived.Shelf.Strings.Builder2Cap
import Derived.Shelf.Strings.Prefix
import Derived.Shelf.Bits.Mul64
import Derived.Shelf.Strings.Repeat
import Derived.Shelf.Strings.BuilderCap
import Derived.Test.YtoegojolimaodaaProg
section
set_option linter.unusedVariables false
set_option maxRecDepth 100000
namespace Go.Proofs.Ytoegojolimaodaa.Facts
open Go Go.Proofs
theorem andT {a b : Bool} (ha : a = true) (hb : b = true) : (a && b) = true := by rw [ha, hb]; rfl
theorem init : Try.pinned.checked.prog.initOrder.toList = [Char.ofNat 104, Char.ofNat 97, Char.ofNat 114, Char.ofNat 110, Char.ofNat 101, Char.ofNat 115, Char.ofNat 115, Char.ofNat 32, Char.ofNat 54, Char.ofNat 57, Char.ofNat 99, Char.ofNat 51, Char.ofNat 49, Char.ofNat 98, Char.ofNat 56, Char.ofNat 99, Char.ofNat 56, Char.ofNat 97, Char.ofNat 50, Char.ofNat 53, Char.ofNat 102, Char.ofNat 55, Char.ofNat 97, Char.ofNat 57, Char.ofNat 48, Char.ofNat 48, Char.ofNat 102, Char.ofNat 54, Char.ofNat 55, Char.ofNat 97, Char.ofNat 49, Char.ofNat 54, Char.ofNat 54, Char.ofNat 100, Char.ofNat 57, Char.ofNat 48, Char.ofNat 101, Char.ofNat 97, Char.ofNat 54, Char.ofNat 57, Char.ofNat 101, Char.ofNat 98, Char.ofNat 101, Char.ofNat 102, Char.ofNat 53, Char.ofNat 57, Char.ofNat 99, Char.ofNat 97, Char.ofNat 51, Char.ofNat 49, Char.ofNat 56, Char.ofNat 101, Char.ofNat 50, Char.ofNat 53, Char.ofNat 52, Char.ofNat 56, Char.ofNat 101, Char.ofNat 55, Char.ofNat 52, Char.ofNat 57, Char.ofNat 50, Char.ofNat 54, Char.ofNat 98, Char.ofNat 57, Char.ofNat 54, Char.ofNat 53, Char.ofNat 49, Char.ofNat 53, Char.ofNat 100, Char.ofNat 99, Char.ofNat 56, Char.ofNat 102, Char.ofNat 32, Char.ofNat 99, Char.ofNat 117, Char.ofNat 116, Char.ofNat 32, Char.ofNat 97, Char.ofNat 116, Char.ofNat 32, Char.ofNat 97, Char.ofNat 98, Char.ofNat 117, Char.ofNat 116, Char.ofNat 109, Char.ofNat 101, Char.ofNat 110, Char.ofNat 116, Char.ofNat 47, Char.ofNat 97, Char.ofNat 98, Char.ofNat 117, Char.ofNat 116, Char.ofNat 109, Char.ofNat 101, Char.ofNat 110, Char.ofNat 116, Char.ofNat 108, Char.ofNat 97, Char.ofNat 119, Char.ofNat 53, Char.ofNat 49, Char.ofNat 46, Char.ofNat 68, Char.ofNat 105, Char.ofNat 102, Char.ofNat 102, Char.ofNat 72, Char.ofNat 101, Char.ofNat 97, Char.ofNat 100, Char.ofNat 115] := by
  have e : Try.pinned.checked.prog.initOrder = String.ofList [Char.ofNat 104, Char.ofNat 97, Char.ofNat 114, Char.ofNat 110, Char.ofNat 101, Char.ofNat 115, Char.ofNat 115, Char.ofNat 32, Char.ofNat 54, Char.ofNat 57, Char.ofNat 99, Char.ofNat 51, Char.ofNat 49, Char.ofNat 98, Char.ofNat 56, Char.ofNat 99, Char.ofNat 56, Char.ofNat 97, Char.ofNat 50, Char.ofNat 53, Char.ofNat 102, Char.ofNat 55, Char.ofNat 97, Char.ofNat 57, Char.ofNat 48, Char.ofNat 48, Char.ofNat 102, Char.ofNat 54, Char.ofNat 55, Char.ofNat 97, Char.ofNat 49, Char.ofNat 54, Char.ofNat 54, Char.ofNat 100, Char.ofNat 57, Char.ofNat 48, Char.ofNat 101, Char.ofNat 97, Char.ofNat 54, Char.ofNat 57, Char.ofNat 101, Char.ofNat 98, Char.ofNat 101, Char.ofNat 102, Char.ofNat 53, Char.ofNat 57, Char.ofNat 99, Char.ofNat 97, Char.ofNat 51, Char.ofNat 49, Char.ofNat 56, Char.ofNat 101, Char.ofNat 50, Char.ofNat 53, Char.ofNat 52, Char.ofNat 56, Char.ofNat 101, Char.ofNat 55, Char.ofNat 52, Char.ofNat 57, Char.ofNat 50, Char.ofNat 54, Char.ofNat 98, Char.ofNat 57, Char.ofNat 54, Char.ofNat 53, Char.ofNat 49, Char.ofNat 53, Char.ofNat 100, Char.ofNat 99, Char.ofNat 56, Char.ofNat 102, Char.ofNat 32, Char.ofNat 99, Char.ofNat 117, Char.ofNat 116, Char.ofNat 32, Char.ofNat 97, Char.ofNat 116, Char.ofNat 32, Char.ofNat 97, Char.ofNat 98, Char.ofNat 117, Char.ofNat 116, Char.ofNat 109, Char.ofNat 101, Char.ofNat 110, Char.ofNat 116, Char.ofNat 47, Char.ofNat 97, Char.ofNat 98, Char.ofNat 117, Char.ofNat 116, Char.ofNat 109, Char.ofNat 101, Char.ofNat 110, Char.ofNat 116, Char.ofNat 108, Char.ofNat 97, Char.ofNat 119, Char.ofNat 53, Char.ofNat 49, Char.ofNat 46, Char.ofNat 68, Char.ofNat 105, Char.ofNat 102, Char.ofNat 102, Char.ofNat 72, Char.ofNat 101, Char.ofNat 97, Char.ofNat 100, Char.ofNat 115] := by kernel_rfl
  rw [e, String.toList_ofList]
theorem strip (rest : List (List Char)) : stripLifts liftWords ("cut".toList :: rest) = ([], "cut".toList :: rest) := by kernel_rfl
theorem mayOf {P : Program} {rest : List (List Char)} (h : behindMainWord (wordsSigns P.initOrder.toList) = "cut".toList :: rest) (a : P.laysLater = false) (b : P.bearsReflect = false) (d : P.doorFits [] = true) : P.mayEnter = true := by
  have e1 : ("cut".toList == "gc".toList) = false := by kernel_rfl
  have e2 : ("cut".toList == "spec".toList) = false := by kernel_rfl
  have e3 : ("cut".toList == "carried".toList) = false := by kernel_rfl
  have e4 : (some "cut".toList == some "cut".toList) = true := by kernel_rfl
  unfold Program.mayEnter
  rw [h]
  show ((("cut".toList == "gc".toList) || ("cut".toList == "spec".toList)) && _ || _ || _) = true
  rw [e1, e2, e3, strip]
  simp only [a, b, d, List.head?_cons, e4, Bool.or_false, Bool.false_and, Bool.not_false, Bool.or_true, Bool.and_true, List.contains_nil]
theorem headOf {P : Program} {rest : List (List Char)} (h : behindMainWord (wordsSigns P.initOrder.toList) = "cut".toList :: rest) : P.headLifts = [] := by
  unfold Program.headLifts
  rw [h, strip]
  exact ite_self _
theorem finalOf {P : Program} {rest : List (List Char)} (h : behindMainWord (wordsSigns P.initOrder.toList) = "cut".toList :: rest) : P.liftsFinal = false := by
  have e3 : (some "cut".toList == some "carried".toList) = false := by kernel_rfl
  unfold Program.liftsFinal
  rw [headOf h, h]
  simp only [List.head?_cons, e3, Bool.false_and, Bool.false_or, List.contains_nil]
theorem makeOf {P : Program} {rest : List (List Char)} (h : behindMainWord (wordsSigns P.initOrder.toList) = "cut".toList :: rest) : P.make = some .cut := by
  have e1 : ("cut".toList == "gc".toList) = false := by kernel_rfl
  have e2 : ("cut".toList == "spec".toList) = false := by kernel_rfl
  have e4 : ("cut".toList == "cut".toList) = true := by kernel_rfl
  unfold Program.make
  rw [h]
  simp only [e1, e2, e4, Bool.or_false, Bool.true_or, if_true, Bool.false_eq_true, if_false]
theorem words : ∃ rest, behindMainWord (wordsSigns Try.pinned.checked.prog.initOrder.toList) = "cut".toList :: rest := by
  rw [init]
  exact ⟨(behindMainWord (wordsSigns [Char.ofNat 104, Char.ofNat 97, Char.ofNat 114, Char.ofNat 110, Char.ofNat 101, Char.ofNat 115, Char.ofNat 115, Char.ofNat 32, Char.ofNat 54, Char.ofNat 57, Char.ofNat 99, Char.ofNat 51, Char.ofNat 49, Char.ofNat 98, Char.ofNat 56, Char.ofNat 99, Char.ofNat 56, Char.ofNat 97, Char.ofNat 50, Char.ofNat 53, Char.ofNat 102, Char.ofNat 55, Char.ofNat 97, Char.ofNat 57, Char.ofNat 48, Char.ofNat 48, Char.ofNat 102, Char.ofNat 54, Char.ofNat 55, Char.ofNat 97, Char.ofNat 49, Char.ofNat 54, Char.ofNat 54, Char.ofNat 100, Char.ofNat 57, Char.ofNat 48, Char.ofNat 101, Char.ofNat 97, Char.ofNat 54, Char.ofNat 57, Char.ofNat 101, Char.ofNat 98, Char.ofNat 101, Char.ofNat 102, Char.ofNat 53, Char.ofNat 57, Char.ofNat 99, Char.ofNat 97, Char.ofNat 51, Char.ofNat 49, Char.ofNat 56, Char.ofNat 101, Char.ofNat 50, Char.ofNat 53, Char.ofNat 52, Char.ofNat 56, Char.ofNat 101, Char.ofNat 55, Char.ofNat 52, Char.ofNat 57, Char.ofNat 50, Char.ofNat 54, Char.ofNat 98, Char.ofNat 57, Char.ofNat 54, Char.ofNat 53, Char.ofNat 49, Char.ofNat 53, Char.ofNat 100, Char.ofNat 99, Char.ofNat 56, Char.ofNat 102, Char.ofNat 32, Char.ofNat 99, Char.ofNat 117, Char.ofNat 116, Char.ofNat 32, Char.ofNat 97, Char.ofNat 116, Char.ofNat 32, Char.ofNat 97, Char.ofNat 98, Char.ofNat 117, Char.ofNat 116, Char.ofNat 109, Char.ofNat 101, Char.ofNat 110, Char.ofNat 116, Char.ofNat 47, Char.ofNat 97, Char.ofNat 98, Char.ofNat 117, Char.ofNat 116, Char.ofNat 109, Char.ofNat 101, Char.ofNat 110, Char.ofNat 116, Char.ofNat 108, Char.ofNat 97, Char.ofNat 119, Char.ofNat 53, Char.ofNat 49, Char.ofNat 46, Char.ofNat 68, Char.ofNat 105, Char.ofNat 102, Char.ofNat 102, Char.ofNat 72, Char.ofNat 101, Char.ofNat 97, Char.ofNat 100, Char.ofNat 115])).tail, by kernel_rfl⟩
theorem lays : Try.pinned.checked.prog.laysLater = false := by kernel_rfl
theorem bears : Try.pinned.checked.prog.bearsReflect = false := by kernel_rfl
theorem door : Try.pinned.checked.prog.doorFits [] = true := by kernel_rfl
theorem mayEnter : Try.pinned.checked.prog.mayEnter = true := by obtain ⟨r, h⟩ := words; exact mayOf h lays bears door
theorem liftsFinal : Try.pinned.checked.prog.liftsFinal = false := by obtain ⟨r, h⟩ := words; exact finalOf h
theorem make : Try.pinned.checked.prog.make = some .cut := by obtain ⟨r, h⟩ := words; exact makeOf h
theorem laidOut : laidOutB Try.pinned.checked.prog = true := by kernel_rfl
theorem mapsR : mapsRowed Try.pinned.checked.prog = true := by kernel_rfl
theorem stops : (Try.pinned.checked.prog.stops == []) = true := by kernel_rfl
theorem stopKnobs : (Try.pinned.checked.prog.stopKnobs == []) = true := by kernel_rfl
theorem stopsHeard : Try.pinned.checked.prog.stopsHeard = true := by kernel_rfl
end Go.Proofs.Ytoegojolimaodaa.Facts
end
section
namespace Go.Proofs
open Go.Shelf
def Try.lays156_ren : Go.Shelf.Ren := ⟨fun | 156 => 50 | 165 => 57 | 166 => 58 | 169 => 60 | 240 => 68 | 241 => 69 | 276 => 70 | 277 => 71 | n => n, fun | 31 => 28 | 9 => 9 | 3 => 3 | 4 => 4 | 0 => 0 | 20 => 20 | 72 => 78 | 76 => 82 | 70 => 76 | 37 => 65 | 75 => 81 | 127 => 95 | 164 => 96 | 5 => 5 | 80 => 85 | n => n, fun | n => n⟩
theorem Try.lays156 : Go.Proofs.Lays.n156 Try.prog Try.lays156_ren := {
  mixed := by kernel_rfl
  f156 := Try.func50.trans (congrArg some (by kernel_rfl))
  f165 := Try.func57.trans (congrArg some (by kernel_rfl))
  f166 := Try.func58.trans (congrArg some (by kernel_rfl))
  f169 := Try.func60.trans (congrArg some (by kernel_rfl))
  f240 := Try.func68.trans (congrArg some (by kernel_rfl))
  f241 := Try.func69.trans (congrArg some (by kernel_rfl))
  f276 := Try.func70.trans (congrArg some (by kernel_rfl))
  f277 := Try.func71.trans (congrArg some (by kernel_rfl))
  t0 := Try.underlying0
  a0 := Try.isAgg0
  z0 := Try.sizeOf0
  v0 := Try.zeroValue0
  t3 := Try.underlying3
  a3 := Try.isAgg3
  z3 := Try.sizeOf3
  v3 := Try.zeroValue3
  t4 := Try.underlying4
  a4 := Try.isAgg4
  z4 := Try.sizeOf4
  v4 := Try.zeroValue4
  t9 := Try.underlying9
  a9 := Try.isAgg9
  z9 := Try.sizeOf9
  v9 := Try.zeroValue9
  t20 := Try.underlying20
  a20 := Try.isAgg20
  z20 := Try.sizeOf20
  v20 := Try.zeroValue20
  t31 := Try.underlying28
  a31 := Try.isAgg28
  z31 := Try.sizeOf28
  v31 := Try.zeroValue28
  t37 := Try.underlying65
  a37 := Try.isAgg65
  z37 := Try.sizeOf65
  v37 := Try.zeroValue65
  t70 := Try.underlying76
  a70 := Try.isAgg76
  z70 := Try.sizeOf76
  v70 := Try.zeroValue76
  t72 := Try.underlying78
  a72 := Try.isAgg78
  z72 := Try.sizeOf78
  v72 := Try.zeroValue78
  t75 := Try.underlying81
  a75 := Try.isAgg81
  z75 := Try.sizeOf81
  v75 := Try.zeroValue81
  t76 := Try.underlying82
  a76 := Try.isAgg82
  z76 := Try.sizeOf82
  v76 := Try.zeroValue82
  t127 := Try.underlying95
  a127 := Try.isAgg95
  z127 := Try.sizeOf95
  v127 := Try.zeroValue95
  t164 := Try.underlying96
  a164 := Try.isAgg96
  z164 := Try.sizeOf96
  v164 := Try.zeroValue96 }
theorem Try.Builder_Extra_156 : Builder.Extra Try.prog Try.lays156_ren := {
  sizeBuilder := by kernel_rfl
  liesBuilder := by kernel_rfl
  t5 := Try.underlying5
  a5 := Try.isAgg5
  z5 := Try.sizeOf5
  v5 := Try.zeroValue5
  infoByte := by kernel_rfl
  cellsByte := by kernel_rfl
  sizeByte := by kernel_rfl
  neB5 := by decide }
open Go.RowKit in
theorem Try.strings_Join_none (a : Option Addr) (c : Nat) (sep : ByteArray) (w : World) :
    Calls Try.prog 50 #[.slice a 0 c, .string sep] w fun e w' => e = .returned (.string ⟨#[]⟩) ∧ w' = w := Any.strings_Join_none Try.lays156 Try.Builder_Extra_156 a c sep w
open Go.RowKit in
theorem Try.strings_Join (bk o c : Nat) (xs : List ByteArray) (sep : ByteArray) (w : World) (hcells : ∀ (j : Nat) x, xs[j]? = some x → w.cell? ⟨bk, o + j, none⟩ = some (.string x)) (hbk : bk < w.heap.size) (hN : xs.length ≤ 140737488355328) (hcap : xs.length ≤ c) (hlen : (Lib.join (xs.map (·.data.toList)) sep.data.toList).length ≤ 140737488355328) :
    Calls Try.prog 50 #[.slice (some ⟨bk, o, none⟩) xs.length c, .string sep] w fun e w' => e = .returned (.string ⟨(Lib.join (xs.map (·.data.toList)) sep.data.toList).toArray⟩) ∧ Below w.heap.size w w' := Any.strings_Join Try.lays156 Try.Builder_Extra_156 bk o c xs sep w hcells hbk hN hcap hlen
def Try.lays105_ren : Go.Shelf.Ren := ⟨fun | 105 => 41 | 212 => 55 | 99 => 56 | 165 => 57 | 166 => 58 | 170 => 59 | 169 => 60 | 263 => 65 | 264 => 66 | 206 => 67 | 240 => 68 | 241 => 69 | 276 => 70 | 277 => 71 | n => n, fun | 9 => 9 | 3 => 3 | 4 => 4 | 20 => 20 | 0 => 0 | 46 => 73 | 109 => 74 | 5 => 5 | 72 => 78 | 76 => 82 | 51 => 90 | 146 => 91 | 53 => 88 | 148 => 93 | 70 => 76 | 37 => 65 | 75 => 81 | 127 => 95 | 164 => 96 | 80 => 85 | n => n, fun | n => n⟩
theorem Try.lays105 : Go.Proofs.Lays.n105 Try.prog Try.lays105_ren := {
  mixed := by kernel_rfl
  f99 := Try.func56.trans (congrArg some (by kernel_rfl))
  f105 := Try.func41.trans (congrArg some (by kernel_rfl))
  f165 := Try.func57.trans (congrArg some (by kernel_rfl))
  f166 := Try.func58.trans (congrArg some (by kernel_rfl))
  f169 := Try.func60.trans (congrArg some (by kernel_rfl))
  f170 := Try.func59.trans (congrArg some (by kernel_rfl))
  f206 := Try.func67.trans (congrArg some (by kernel_rfl))
  f212 := Try.func55.trans (congrArg some (by kernel_rfl))
  f240 := Try.func68.trans (congrArg some (by kernel_rfl))
  f241 := Try.func69.trans (congrArg some (by kernel_rfl))
  f263 := Try.func65.trans (congrArg some (by kernel_rfl))
  f264 := Try.func66.trans (congrArg some (by kernel_rfl))
  f276 := Try.func70.trans (congrArg some (by kernel_rfl))
  f277 := Try.func71.trans (congrArg some (by kernel_rfl))
  t0 := Try.underlying0
  a0 := Try.isAgg0
  z0 := Try.sizeOf0
  v0 := Try.zeroValue0
  t3 := Try.underlying3
  a3 := Try.isAgg3
  z3 := Try.sizeOf3
  v3 := Try.zeroValue3
  t4 := Try.underlying4
  a4 := Try.isAgg4
  z4 := Try.sizeOf4
  v4 := Try.zeroValue4
  t5 := Try.underlying5
  a5 := Try.isAgg5
  z5 := Try.sizeOf5
  v5 := Try.zeroValue5
  t9 := Try.underlying9
  a9 := Try.isAgg9
  z9 := Try.sizeOf9
  v9 := Try.zeroValue9
  t20 := Try.underlying20
  a20 := Try.isAgg20
  z20 := Try.sizeOf20
  v20 := Try.zeroValue20
  t37 := Try.underlying65
  a37 := Try.isAgg65
  z37 := Try.sizeOf65
  v37 := Try.zeroValue65
  t46 := Try.underlying73
  a46 := Try.isAgg73
  z46 := Try.sizeOf73
  v46 := Try.zeroValue73
  t51 := Try.underlying90
  a51 := Try.isAgg90
  z51 := Try.sizeOf90
  v51 := Try.zeroValue90
  t53 := Try.underlying88
  a53 := Try.isAgg88
  z53 := Try.sizeOf88
  v53 := Try.zeroValue88
  t70 := Try.underlying76
  a70 := Try.isAgg76
  z70 := Try.sizeOf76
  v70 := Try.zeroValue76
  t72 := Try.underlying78
  a72 := Try.isAgg78
  z72 := Try.sizeOf78
  v72 := Try.zeroValue78
  t75 := Try.underlying81
  a75 := Try.isAgg81
  z75 := Try.sizeOf81
  v75 := Try.zeroValue81
  t76 := Try.underlying82
  a76 := Try.isAgg82
  z76 := Try.sizeOf82
  v76 := Try.zeroValue82
  t109 := Try.underlying74
  a109 := Try.isAgg74
  z109 := Try.sizeOf74
  v109 := Try.zeroValue74
  t127 := Try.underlying95
  a127 := Try.isAgg95
  z127 := Try.sizeOf95
  v127 := Try.zeroValue95
  t146 := Try.underlying91
  a146 := Try.isAgg91
  z146 := Try.sizeOf91
  v146 := Try.zeroValue91
  t148 := Try.underlying93
  a148 := Try.isAgg93
  z148 := Try.sizeOf93
  v148 := Try.zeroValue93
  t164 := Try.underlying96
  a164 := Try.isAgg96
  z164 := Try.sizeOf96
  v164 := Try.zeroValue96 }
theorem Try.Builder_Extra_105 : Builder.Extra Try.prog Try.lays105_ren := {
  sizeBuilder := by kernel_rfl
  liesBuilder := by kernel_rfl
  t5 := Try.underlying5
  a5 := Try.isAgg5
  z5 := Try.sizeOf5
  v5 := Try.zeroValue5
  infoByte := by kernel_rfl
  cellsByte := by kernel_rfl
  sizeByte := by kernel_rfl
  neB5 := by decide }
open Go.RowKit Go.Lib in
theorem Try.strings_Repeat (s : ByteArray) (c : Nat) (w : World) (hc : c ≤ 9223372036854775807) (hlen : s.size * c ≤ 140737488355328) :
    Calls Try.prog 41 #[.string s, .int .i64 c] w fun e w' => e = .returned (.string ⟨(Lib.repeatL s.data.toList c).toArray⟩) ∧ Below w.heap.size w w' := Any.strings_Repeat Try.lays105 Try.Builder_Extra_105 s c w hc hlen
end Go.Proofs
end
section
set_option linter.unusedVariables false
set_option linter.unusedSimpArgs false
namespace Go.Mdl
open Go Go.Abs
theorem repeatL_one (c : UInt8) : ∀ n, Lib.repeatL [c] n = List.replicate n c
  | 0 => rfl
  | n + 1 => by simp [Lib.repeatL, repeatL_one c n, List.replicate_succ]
theorem ba_size (s : List UInt8) : (ByteArray.mk s.toArray).size = s.length := by simp [ByteArray.size]
theorem list2 {vs : List Value} (h : vs.length = 2) : ∃ a b, vs = [a, b] := by
  match vs, h with
  | [a, b], _ => exact ⟨a, b, rfl⟩
end Go.Mdl
namespace Go.Proofs.Try.Lib
open Go Go.Abs Go.Proofs Go.Mdl
set_option maxRecDepth 100000 in
set_option maxHeartbeats 4000000 in
theorem specRepeat (s : List UInt8) (c : Int) (hc : 0 ≤ c ∧ c ≤ 1000000) (hs : s.length ≤ 1000000) : SpecE Try.prog 41 [] [.str s, .int .i64 c] [] (.str (Lib.repeatL s c.toNat)) := by
  refine SpecE.ofCalls (by decide +kernel) (fun w ok vs hok hl hr => ?_)
  obtain ⟨v0, v1, rfl⟩ := list2 hl
  have e0 := (hr 0 _ _ rfl rfl).strInv
  have e1 := (hr 1 _ _ rfl rfl).intInv
  subst e0 e1
  have hcn : ((c.toNat : Nat) : Int) = c := by omega
  have key := Try.strings_Repeat ⟨s.toArray⟩ c.toNat w (by omega) (by
    rw [ba_size]
    have : s.length * c.toNat ≤ 1000000 * 1000000 := Nat.mul_le_mul hs (by omega)
    omega)
  rw [hcn] at key
  refine key.mono ?_
  rintro e w' ⟨rfl, hb⟩
  exact ⟨_, rfl, hb, fun ok' => .str _⟩
def tb_specRepeat : List Blk → List AV → Option (List Blk × AV × Prop)
  | [], [.str s, .int .i64 c] => some ([], .str (Lib.repeatL s c.toNat), (0 ≤ c ∧ c ≤ 1000000) ∧ (s.length ≤ 1000000))
  | _, _ => none
theorem tb_specRepeat_ok : ∀ E args E' res p, tb_specRepeat E args = some (E', res, p) → p → SpecE Try.prog 41 E args E' res := by
  intro E args E' res p h hp
  unfold tb_specRepeat at h
  split at h
  · simp only [Option.some.injEq, Prod.mk.injEq] at h
    obtain ⟨rfl, rfl, rfl⟩ := h
    exact (specRepeat _ _ hp.1 hp.2)
  · cases h
def T_specJoin : Tbl := fun g E args => nilT g E args
theorem T_specJoin_ok : TblOK Try.prog T_specJoin := nilT_ok
set_option maxRecDepth 100000 in
set_option maxHeartbeats 4000000 in
theorem specJoin (l : List (List UInt8)) (p : List UInt8) (hn : l.length ≤ 1000000) (hj : (Lib.join l p).length ≤ 140737488355328) : SpecE Try.prog 50 [] [enc_strs l, .str p] [] (.str (Lib.join l p)) := by
  refine SpecE.ofCalls (by decide +kernel) (fun w ok vs hok hl hr => ?_)
  obtain ⟨v0, v1, rfl⟩ := list2 hl
  have h0 := hr 0 _ _ rfl rfl
  have e1 := (hr 1 _ _ rfl rfl).strInv
  subst e1
  obtain ⟨a, cap, rfl, hcap, hmx, hh⟩ := Rp.listInv h0
  have hmap : ∀ xs : List (List UInt8), (xs.map fun x => ByteArray.mk x.toArray).map (fun x => x.data.toList) = xs := fun xs => by simp [List.map_map, Function.comp_def]
  by_cases hnil : l = []
  · subst hnil
    refine (Try.strings_Join_none a cap ⟨p.toArray⟩ w).mono ?_
    rintro e w' ⟨rfl, rfl⟩
    refine ⟨_, rfl, RowKit.Below.refl _ _, fun ok' => ?_⟩
    exact .str []
  rcases hh with hh | ⟨b, off, cv, rfl, hs, h1, h2⟩
  · exact absurd (List.map_eq_nil_iff.1 hh) hnil
  have hc : ∀ (j : Nat) x, (l.map fun x => ByteArray.mk x.toArray)[j]? = some x → w.cell? ⟨b, off + j, none⟩ = some (.string x) := fun j x hx => by
    simp only [List.getElem?_map, Option.map_eq_some_iff] at hx
    obtain ⟨y, hy, rfl⟩ := hx
    have hx : (l.map AV.str)[j]? = some (.str y) := by simp [hy]
    have g1 := h1 j _ 0 _ hx rfl
    have g2 := (h2 j _ 0 _ hx rfl).strInv
    rw [g2] at g1
    simpa using g1.2.1
  have hb : b < w.heap.size := by
    obtain ⟨x, hx⟩ : ∃ x, l[0]? = some x := by cases l with | nil => exact absurd rfl hnil | cons x r => exact ⟨x, rfl⟩
    have g1 := h1 0 (.str x) 0 _ (by simp [hx]) rfl
    exact hok _ _ g1.1
  have key := Try.strings_Join b off cap (l.map fun x => ByteArray.mk x.toArray) ⟨p.toArray⟩ w hc hb (by simp; omega) (by simpa using hcap) (by rw [hmap]; exact hj)
  rw [hmap, List.length_map] at key
  have e2 : (l.map AV.str).length = l.length := by simp
  rw [e2]
  refine key.mono ?_
  rintro e w' ⟨rfl, hb⟩
  exact ⟨_, rfl, hb, fun ok' => .str _⟩
def tb_specJoin : List Blk → List AV → Option (List Blk × AV × Prop)
  | [], [a0, .str p] => some ([], .str (Lib.join (dec_strs a0) p), ((dec_strs a0).length ≤ 1000000) ∧ ((Lib.join (dec_strs a0) p).length ≤ 140737488355328) ∧ argOK a0 (enc_strs (dec_strs a0)))
  | _, _ => none
theorem tb_specJoin_ok : ∀ E args E' res p, tb_specJoin E args = some (E', res, p) → p → SpecE Try.prog 50 E args E' res := by
  intro E args E' res p h hp
  unfold tb_specJoin at h
  split at h
  · simp only [Option.some.injEq, Prod.mk.injEq] at h
    obtain ⟨rfl, rfl, rfl⟩ := h
    exact SpecE.args (specJoin _ _ hp.1 hp.2.1) (.cons hp.2.2 (.cons (argOK.refl _) .nil))
  · cases h
end Go.Proofs.Try.Lib
end
section
set_option linter.unusedVariables false
set_option linter.unusedSimpArgs false
namespace Go.Proofs.Try.Lists
open Go Go.Abs Go.Proofs Go.Mdl
def T_specJoin : Tbl := fun g E args => (addT nilT 50 Go.Proofs.Try.Lib.tb_specJoin) g E args
theorem T_specJoin_ok : TblOK Try.prog T_specJoin := (addT_ok nilT_ok (by decide +kernel) Go.Proofs.Try.Lib.tb_specJoin_ok)
set_option maxRecDepth 100000 in
set_option maxHeartbeats 4000000 in
theorem specJoin (l : List (List UInt8)) (hn : l.length ≤ 1000000) (hj : (Lib.join l [44, 32]).length ≤ 140737488355328) : SpecE Try.prog 32 [] [enc_strs l] [] (.str (Lib.join l [44, 32])) := by
  refine specF0 (C := T_specJoin) (wr := false) (D := fun _ => []) (U := fun _ => none) (res := [.str (Lib.join l [44, 32])]) Try.Ty.mixed T_specJoin_ok Try.func32 (nA := 1) (by decide +kernel) rfl (fun _ => rfl) ?_
  simp only [Try.f32, bodyOf, rlOf]
  rw [W_V]
  simp (config := {maxSteps := 2000000}) only [T_specJoin, Go.Proofs.Try.Lib.tb_specJoin, go_sem, seval]
  (try simp (config := {maxSteps := 2000000}) only [gimp, impB, isT, go_sem, seval])
  exact ⟨hn, hj⟩
def tb_specJoin : List Blk → List AV → Option (List Blk × AV × Prop)
  | [], [a0] => some ([], .str (Lib.join (dec_strs a0) [44, 32]), ((dec_strs a0).length ≤ 1000000) ∧ ((Lib.join (dec_strs a0) [44, 32]).length ≤ 140737488355328) ∧ argOK a0 (enc_strs (dec_strs a0)))
  | _, _ => none
theorem tb_specJoin_ok : ∀ E args E' res p, tb_specJoin E args = some (E', res, p) → p → SpecE Try.prog 32 E args E' res := by
  intro E args E' res p h hp
  unfold tb_specJoin at h
  split at h
  · simp only [Option.some.injEq, Prod.mk.injEq] at h
    obtain ⟨rfl, rfl, rfl⟩ := h
    exact SpecE.args (specJoin _ hp.1 hp.2.1) (.cons hp.2.2 .nil)
  · cases h
end Go.Proofs.Try.Lists
end
section
set_option linter.unusedVariables false
set_option linter.unusedSimpArgs false
namespace Go.Mdl
open Go Go.Abs
theorem join_eq : ∀ l : List (List UInt8), Lib.join l [44, 32] = joinS l
  | [] => rfl
  | [a] => by simp [Lib.join, joinS, List.intercalate]
  | a :: b :: r => by
    have ih := join_eq (b :: r)
    simp only [Lib.join, List.intercalate, List.intersperse, List.flatten_cons, joinS] at ih ⊢
    rw [ih]; simp
end Go.Mdl
namespace Go.Proofs.Try.Lists
open Go Go.Abs Go.Proofs Go.Mdl
end Go.Proofs.Try.Lists
end
section
set_option linter.unusedVariables false
set_option linter.unusedSimpArgs false
namespace Go.Mdl
open Go Go.Abs
def isN (names : List (List UInt8)) (f : Fld) : Bool := names.any fun n => foldS n f.1
def allS (l : List Fld) (name : List UInt8) : List (List UInt8) := (l.filter (isN [name])).map (·.2)
def combS (l : List Fld) (name : List UInt8) : List UInt8 := joinS (allS l name)
theorem isN_one (n : List UInt8) (f : Fld) : isN [n] f = foldS n f.1 := by simp [isN]
theorem allS_take_succ {l : List Fld} {k : Nat} (n : List UInt8) (h : k < l.length) : allS (l.take (k + 1)) n = allS (l.take k) n ++ if isN [n] (l.getD k ([], [])) = true then [(l.getD k ([], [])).2] else [] := by
  rw [take_succ_getD ([], []) h]
  simp only [allS, List.filter_append, List.map_append]
  congr 1
  by_cases hh : isN [n] (l.getD k ([], [])) = true
  · rw [if_pos hh, List.filter_cons_of_pos hh]; rfl
  · rw [if_neg hh, List.filter_cons_of_neg hh]; rfl
theorem allS_len (l : List Fld) (n : List UInt8) : (allS l n).length ≤ l.length := by
  have := List.length_filter_le (isN [n]) l
  simpa [allS] using this
theorem allS_mem {l : List Fld} {n e : List UInt8} (h : e ∈ allS l n) : ∃ f ∈ l, e = f.2 ∧ isN [n] f = true := by
  simp only [allS, List.mem_map, List.mem_filter] at h
  obtain ⟨f, ⟨h1, h2⟩, rfl⟩ := h
  exact ⟨f, h1, rfl, h2⟩
theorem comb_len {l : List Fld} (n : List UInt8) (h : fewF l = true) : (combS l n).length ≤ 12080 := by
  obtain ⟨h1, h2⟩ := fewF_len h
  have h3 := allS_len l n
  have := joinS_len (l := allS l n) (m := 300) (fun e he => by obtain ⟨f, hf, rfl, _⟩ := allS_mem he; exact (h2 f hf).2)
  have h4 := Nat.mul_le_mul (show (allS l n).length ≤ 40 by omega) (Nat.le_refl (300 + 2))
  unfold combS; omega
end Go.Mdl
end
section
set_option linter.unusedVariables false
set_option linter.unusedSimpArgs false
namespace Go.Proofs.Try.Hdr
open Go Go.Abs Go.Proofs Go.Mdl
def T_specNamed : Tbl := fun g E args => nilT g E args
theorem T_specNamed_ok : TblOK Try.prog T_specNamed := nilT_ok
set_option maxRecDepth 100000 in
set_option maxHeartbeats 4000000 in
theorem specNamed (names : List (List UInt8)) : SpecE Try.prog 47 [] [enc_strs names] [.cells 1 false .nils [enc_strs names]] (.clo 61 0 [.ptr 0 0 0 1]) := by
  refine specFE (C := T_specNamed) (wr := false) (D := fun _ => []) (U := fun _ => none) (E := []) (E' := [.cells 1 false .nils [enc_strs names]]) (res := [.clo 61 0 [.ptr 0 0 0 1]]) [32] Try.Ty.mixed T_specNamed_ok Try.func47 (args := [enc_strs names]) (nE := 0) (nA := 1) (by decide +kernel) rfl rfl ?_
  simp only [Try.f47, bodyOf, rlOf]
  rw [W_V]
  simp (config := {maxSteps := 2000000}) only [T_specNamed, go_sem, seval]
  (try simp (config := {maxSteps := 2000000}) only [gimp, impB, isT, go_sem, seval])
def tb_specNamed : List Blk → List AV → Option (List Blk × AV × Prop)
  | [], [a0] => some ([.cells 1 false .nils [enc_strs (dec_strs a0)]], .clo 61 0 [.ptr 0 0 0 1], argOK a0 (enc_strs (dec_strs a0)))
  | _, _ => none
theorem tb_specNamed_ok : ∀ E args E' res p, tb_specNamed E args = some (E', res, p) → p → SpecE Try.prog 47 E args E' res := by
  intro E args E' res p h hp
  unfold tb_specNamed at h
  split at h
  · simp only [Option.some.injEq, Prod.mk.injEq] at h
    obtain ⟨rfl, rfl, rfl⟩ := h
    exact SpecE.args (specNamed _) (.cons hp .nil)
  · cases h
def T_specNamedN : Tbl := fun g E args => (addT nilT 43 Go.Proofs.Try.Oct.tb_specFold) g E args
theorem T_specNamedN_ok : TblOK Try.prog T_specNamedN := (addT_ok nilT_ok (by decide +kernel) Go.Proofs.Try.Oct.tb_specFold_ok)
set_option maxRecDepth 100000 in
set_option maxHeartbeats 4000000 in
theorem specNamedN (n a b : List UInt8) (hn : n.length ≤ maxLen) : SpecE Try.prog 62 [.cells 2 false (.agg [.str [], .str []]) [.agg [.str a, .str b]]] [.str n, .ptr 0 0 0 1] [.cells 2 false (.agg [.str [], .str []]) [.agg [.str a, .str b]]] (.bool (foldS n a)) := by
  refine specFE (C := T_specNamedN) (wr := false) (D := fun _ => []) (U := fun _ => none) (E := [.cells 2 false (.agg [.str [], .str []]) [.agg [.str a, .str b]]]) (E' := [.cells 2 false (.agg [.str [], .str []]) [.agg [.str a, .str b]]]) (res := [.bool (foldS n a)]) [] Try.Ty.mixed T_specNamedN_ok Try.func62 (args := [.str n, .ptr 0 0 0 1]) (nE := 1) (nA := 2) (by decide +kernel) rfl rfl ?_
  simp only [Try.f62, bodyOf, rlOf]
  rw [W_V]
  simp (config := {maxSteps := 2000000}) only [T_specNamedN, Go.Proofs.Try.Oct.tb_specFold, go_sem, seval]
  (try simp (config := {maxSteps := 2000000}) only [gimp, impB, isT, go_sem, seval])
  exact hn
set_option maxRecDepth 100000 in
set_option maxHeartbeats 4000000 in
theorem specNamedHas (names : List (List UInt8)) (a b : List UInt8) (hl : names.length ≤ maxLen) (hq : ∀ x ∈ names, x.length ≤ maxLen) : SpecE Try.prog 48 [.cells 2 false (.agg [.str [], .str []]) [.agg [.str a, .str b]]] [enc_strs names, .clo 62 0 [.ptr 0 0 0 1]] [.cells 2 false (.agg [.str [], .str []]) [.agg [.str a, .str b]]] (.bool (isN names (a, b))) := by
  exact Slc.has_S (by decide) (boxFld (a, b)) (fun _ => rfl) (q := fun x => x.length ≤ maxLen) (fun x hx => specNamedN x a b hx) names hq hl
def tb_specNamedHas : List Blk → List AV → Option (List Blk × AV × Prop)
  | [.cells 2 false d [.agg [.str a, .str b]]], [a0, .clo 62 0 [.ptr 0 0 0 1]] => some ([.cells 2 false (.agg [.str [], .str []]) [.agg [.str a, .str b]]], .bool (isN (dec_strs a0) (a, b)), (d = .agg [.str [], .str []]) ∧ ((dec_strs a0).length ≤ maxLen) ∧ (∀ x ∈ (dec_strs a0), x.length ≤ maxLen) ∧ argOK a0 (enc_strs (dec_strs a0)))
  | _, _ => none
theorem tb_specNamedHas_ok : ∀ E args E' res p, tb_specNamedHas E args = some (E', res, p) → p → SpecE Try.prog 48 E args E' res := by
  intro E args E' res p h hp
  unfold tb_specNamedHas at h
  split at h
  · simp only [Option.some.injEq, Prod.mk.injEq] at h
    obtain ⟨rfl, rfl, rfl⟩ := h
    obtain ⟨rfl, hp⟩ := hp
    exact SpecE.args (specNamedHas _ _ _ hp.1 hp.2.1) (.cons hp.2.2 (.cons (argOK.refl _) .nil))
  · cases h
def T_specNamedF : Tbl := fun g E args => (addT nilT 48 Go.Proofs.Try.Hdr.tb_specNamedHas) g E args
theorem T_specNamedF_ok : TblOK Try.prog T_specNamedF := (addT_ok nilT_ok (by decide +kernel) Go.Proofs.Try.Hdr.tb_specNamedHas_ok)
set_option maxRecDepth 100000 in
set_option maxHeartbeats 4000000 in
theorem specNamedF (names : List (List UInt8)) (a b : List UInt8) (hl : names.length ≤ maxLen) (hq : ∀ x ∈ names, x.length ≤ maxLen) : SpecE Try.prog 61 [.cells 1 false .nils [enc_strs names]] [.agg [.str a, .str b], .ptr 0 0 0 1] [.cells 1 false .nils [enc_strs names]] (.bool (isN names (a, b))) := by
  refine specFE (C := T_specNamedF) (wr := false) (D := fun _ => []) (U := fun _ => none) (E := [.cells 1 false .nils [enc_strs names]]) (E' := [.cells 1 false .nils [enc_strs names]]) (res := [.bool (isN names (a, b))]) [] Try.Ty.mixed T_specNamedF_ok Try.func61 (args := [.agg [.str a, .str b], .ptr 0 0 0 1]) (nE := 1) (nA := 2) (by decide +kernel) rfl rfl ?_
  simp only [Try.f61, bodyOf, rlOf]
  rw [W_V]
  simp (config := {maxSteps := 2000000}) only [T_specNamedF, Go.Proofs.Try.Hdr.tb_specNamedHas, go_sem, seval]
  (try simp (config := {maxSteps := 2000000}) only [gimp, impB, isT, go_sem, seval])
  exact ⟨hl, hq⟩
def tb_specNamedF : List Blk → List AV → Option (List Blk × AV × Prop)
  | [.cells 1 false d [b0_0]], [.agg [.str a, .str b], .ptr 0 0 0 1] => some ([.cells 1 false .nils [enc_strs (dec_strs b0_0)]], .bool (isN (dec_strs b0_0) (a, b)), (d = .nils) ∧ ((dec_strs b0_0).length ≤ maxLen) ∧ (∀ x ∈ (dec_strs b0_0), x.length ≤ maxLen) ∧ b0_0 = enc_strs (dec_strs b0_0))
  | _, _ => none
theorem tb_specNamedF_ok : ∀ E args E' res p, tb_specNamedF E args = some (E', res, p) → p → SpecE Try.prog 61 E args E' res := by
  intro E args E' res p h hp
  unfold tb_specNamedF at h
  split at h
  · rename_i d b0_0 a b
    simp only [Option.some.injEq, Prod.mk.injEq] at h
    obtain ⟨rfl, rfl, rfl⟩ := h
    obtain ⟨rfl, hh0, hh1, hb0⟩ := hp
    generalize dec_strs b0_0 = b0_0_x at *
    subst hb0
    exact (specNamedF _ _ _ hh0 hh1)
  · cases h
def T_specAll : Tbl := fun g E args => (addT (addT nilT 47 Go.Proofs.Try.Hdr.tb_specNamed) 61 Go.Proofs.Try.Hdr.tb_specNamedF) g E args
theorem T_specAll_ok : TblOK Try.prog T_specAll := (addT_ok (addT_ok nilT_ok (by decide +kernel) Go.Proofs.Try.Hdr.tb_specNamed_ok) (by decide +kernel) Go.Proofs.Try.Hdr.tb_specNamedF_ok)
set_option maxRecDepth 100000 in
set_option maxHeartbeats 4000000 in
theorem specAll (l : List Fld) (name : List UInt8) (hl : l.length ≤ 1000) (hn : name.length ≤ maxLen) : SpecE Try.prog 30 [] [enc_flds l, .str name] [] (enc_strs (allS l name)) := by
  refine specF0 (C := T_specAll) (wr := false) (D := fun _ => []) (U := fun _ => none) (res := [enc_strs (allS l name)]) Try.Ty.mixed T_specAll_ok Try.func30 (nA := 2) (by decide +kernel) rfl (fun _ => rfl) ?_
  simp only [Try.f30, bodyOf, rlOf]
  rw [W_V]
  simp (config := {maxSteps := 2000000}) only [T_specAll, Go.Proofs.Try.Hdr.tb_specNamed, Go.Proofs.Try.Hdr.tb_specNamedF, go_sem, seval]
  (try simp (config := {maxSteps := 2000000}) only [gimp, impB, isT, go_sem, seval])
  refine VL_inv (X := Nat) (fun k => ⟨[(5, .clo 61 0 [.ptr 192 0 0 1]), (6, .ref 416 0 (allS (l.take k) name).length (allS (l.take k) name).length), (12, enc_flds l), (13, .int .i64 l.length), (14, .int .i64 k)], [(192, .cells 1 false .nils [enc_strs [name]]), (416, .cells 1 false (.str []) ((allS (l.take k) name).map .str))]⟩) (fun k => k ≤ l.length) (fun k => l.length - k) 0 ?_ ?_ ?_
  · simp only [allS, List.take_zero, List.filter_nil, go_sem, go_sem, seval]
    try rfl
  · exact Nat.zero_le _
  rintro k hk
  simp (config := {maxSteps := 2000000}) only [T_specAll, Go.Proofs.Try.Hdr.tb_specNamed, Go.Proofs.Try.Hdr.tb_specNamedF, go_sem, seval]
  (try simp (config := {maxSteps := 2000000}) only [gimp, impB, isT, go_sem, seval])
  have hs := fun h : k < l.length => allS_take_succ (l := l) name h
  have hle := allS_len (l.take k) name
  have hlt' : (l.take k).length ≤ 1000 := by rw [List.length_take]; omega
  have hm : (1 : Nat) ≤ maxLen := by decide
  refine ⟨fun hlt => ⟨by omega, ⟨hm, hn⟩, fun hy => ⟨by omega, by omega, k + 1, ⟨⟨?_, by omega⟩, ?_⟩, by omega, by omega⟩, fun hno => ⟨by omega, k + 1, ⟨⟨?_, by omega⟩, ?_⟩, by omega, by omega⟩⟩, fun hge => ?_⟩
  · rw [hs (by omega), if_pos hy]; simp
  · rw [hs (by omega), if_pos hy]; simp
  · rw [hs (by omega), if_neg (by rw [show isN [name] (l.getD k ([], [])) = false from hno]; simp)]; simp
  · rw [hs (by omega), if_neg (by rw [show isN [name] (l.getD k ([], [])) = false from hno]; simp)]; simp
  · rw [List.take_length, List.take_of_length_le (by omega)]
def tb_specAll : List Blk → List AV → Option (List Blk × AV × Prop)
  | [], [a0, .str name] => some ([], enc_strs (allS (dec_flds a0) name), ((dec_flds a0).length ≤ 1000) ∧ (name.length ≤ maxLen) ∧ argOK a0 (enc_flds (dec_flds a0)))
  | _, _ => none
theorem tb_specAll_ok : ∀ E args E' res p, tb_specAll E args = some (E', res, p) → p → SpecE Try.prog 30 E args E' res := by
  intro E args E' res p h hp
  unfold tb_specAll at h
  split at h
  · simp only [Option.some.injEq, Prod.mk.injEq] at h
    obtain ⟨rfl, rfl, rfl⟩ := h
    exact SpecE.args (specAll _ _ hp.1 hp.2.1) (.cons hp.2.2 (.cons (argOK.refl _) .nil))
  · cases h
end Go.Proofs.Try.Hdr
end
section
set_option linter.unusedVariables false
set_option linter.unusedSimpArgs false
namespace Go.Proofs.Try.HdrR
open Go Go.Abs Go.Proofs Go.Mdl
def T_specIs : Tbl := fun g E args => (addT nilT 53 Go.Proofs.Try.Oct.tb_specLowerR) g E args
theorem T_specIs_ok : TblOK Try.prog T_specIs := (addT_ok nilT_ok (by decide +kernel) Go.Proofs.Try.Oct.tb_specLowerR_ok)
set_option maxRecDepth 100000 in
set_option maxHeartbeats 4000000 in
theorem specIs (a b : List UInt8) (ha : a.length ≤ 1000000) (hb : b.length ≤ 1000000) : SpecE Try.prog 52 [] [.str a, .str b] [] (.bool (decide (lowerS a = lowerS b))) := by
  refine specF0 (C := T_specIs) (wr := false) (D := fun _ => []) (U := fun _ => none) (res := [.bool (decide (lowerS a = lowerS b))]) Try.Ty.mixed T_specIs_ok Try.func52 (nA := 2) (by decide +kernel) rfl (fun _ => rfl) ?_
  simp only [Try.f52, bodyOf, rlOf]
  rw [W_V]
  simp (config := {maxSteps := 2000000}) only [T_specIs, Go.Proofs.Try.Oct.tb_specLowerR, go_sem, seval]
  (try simp (config := {maxSteps := 2000000}) only [gimp, impB, isT, go_sem, seval])
  exact ⟨ha, hb⟩
def tb_specIs : List Blk → List AV → Option (List Blk × AV × Prop)
  | [], [.str a, .str b] => some ([], .bool (decide (lowerS a = lowerS b)), (a.length ≤ 1000000) ∧ (b.length ≤ 1000000))
  | _, _ => none
theorem tb_specIs_ok : ∀ E args E' res p, tb_specIs E args = some (E', res, p) → p → SpecE Try.prog 52 E args E' res := by
  intro E args E' res p h hp
  unfold tb_specIs at h
  split at h
  · simp only [Option.some.injEq, Prod.mk.injEq] at h
    obtain ⟨rfl, rfl, rfl⟩ := h
    exact (specIs _ _ hp.1 hp.2)
  · cases h
end Go.Proofs.Try.HdrR
end
section
set_option linter.unusedVariables false
set_option linter.unusedSimpArgs false
namespace Go.Mdl
open Go Go.Abs
end Go.Mdl
namespace Go.Proofs.Try.HdrR
open Go Go.Abs Go.Proofs Go.Mdl
def T_specAll : Tbl := fun g E args => (addT nilT 52 Go.Proofs.Try.HdrR.tb_specIs) g E args
theorem T_specAll_ok : TblOK Try.prog T_specAll := (addT_ok nilT_ok (by decide +kernel) Go.Proofs.Try.HdrR.tb_specIs_ok)
set_option maxRecDepth 100000 in
set_option maxHeartbeats 4000000 in
theorem specAll (l : List Fld) (name : List UInt8) (hl : l.length ≤ 1000000) (hn : name.length ≤ 1000000) (hf : ∀ f ∈ l, f.1.length ≤ 1000000) : SpecE Try.prog 35 [] [enc_flds l, .str name] [] (enc_strs (allS l name)) := by
  refine specF0 (C := T_specAll) (wr := false) (D := fun _ => []) (U := fun _ => none) (res := [enc_strs (allS l name)]) Try.Ty.mixed T_specAll_ok Try.func35 (nA := 2) (by decide +kernel) rfl (fun _ => rfl) ?_
  simp only [Try.f35, bodyOf, rlOf]
  rw [W_V]
  simp (config := {maxSteps := 2000000}) only [T_specAll, Go.Proofs.Try.HdrR.tb_specIs, go_sem, seval, true_and]
  (try simp (config := {maxSteps := 2000000}) only [gimp, impB, isT, go_sem, seval])
  refine VL_inv (X := Nat) (fun k => ⟨[(0, enc_flds l), (1, .str name), (5, .ref 128 0 (allS (l.take k) name).length (allS (l.take k) name).length), (6, .int .i64 k)], [(128, .cells 1 false (.str []) ((allS (l.take k) name).map .str))]⟩) (fun k => k ≤ l.length) (fun k => l.length - k) 0 ?_ ?_ ?_
  · simp only [allS, List.take_zero, List.filter_nil, go_sem, go_sem, seval]
    try rfl
  · exact Nat.zero_le _
  rintro k hk
  simp (config := {maxSteps := 2000000}) only [T_specAll, Go.Proofs.Try.HdrR.tb_specIs, go_sem, seval, true_and]
  (try simp (config := {maxSteps := 2000000}) only [gimp, impB, isT, go_sem, seval])
  have hs := fun h : k < l.length => allS_take_succ (l := l) name h
  have hle := allS_len (l.take k) name
  have hlt' : (l.take k).length ≤ 1000000 := by rw [List.length_take]; omega
  have hi : isN [name] (l.getD k ([], [])) = true ↔ lowerS (l.getD k ([], [])).1 = lowerS name := by rw [isN_one]; simp [foldS, eq_comm]
  refine ⟨fun hlt => ⟨by omega, ⟨hf _ (List.mem_of_getElem? (getD_of_lt (s := l) (d := ([], [])) (by omega))), hn⟩, fun hy => ⟨by omega, by omega, by omega, k + 1, ⟨⟨?_, by omega⟩, ?_⟩, by omega, by omega⟩, fun hno => ⟨by omega, k + 1, ⟨⟨?_, by omega⟩, ?_⟩, by omega, by omega⟩⟩, fun hge => ?_⟩
  · rw [hs (by omega), if_pos (hi.2 hy)]; simp
  · rw [hs (by omega), if_pos (hi.2 hy)]; simp
  · rw [hs (by omega), if_neg (fun h => hno (hi.1 h))]; simp
  · rw [hs (by omega), if_neg (fun h => hno (hi.1 h))]; simp
  · rw [List.take_length, List.take_of_length_le (by omega)]
def tb_specAll : List Blk → List AV → Option (List Blk × AV × Prop)
  | [], [a0, .str name] => some ([], enc_strs (allS (dec_flds a0) name), ((dec_flds a0).length ≤ 1000000) ∧ (name.length ≤ 1000000) ∧ (∀ f ∈ (dec_flds a0), f.1.length ≤ 1000000) ∧ argOK a0 (enc_flds (dec_flds a0)))
  | _, _ => none
theorem tb_specAll_ok : ∀ E args E' res p, tb_specAll E args = some (E', res, p) → p → SpecE Try.prog 35 E args E' res := by
  intro E args E' res p h hp
  unfold tb_specAll at h
  split at h
  · simp only [Option.some.injEq, Prod.mk.injEq] at h
    obtain ⟨rfl, rfl, rfl⟩ := h
    exact SpecE.args (specAll _ _ hp.1 hp.2.1 hp.2.2.1) (.cons hp.2.2.2 (.cons (argOK.refl _) .nil))
  · cases h
end Go.Proofs.Try.HdrR
end
section
set_option linter.unusedVariables false
set_option linter.unusedSimpArgs false
namespace Go.Mdl
open Go Go.Abs
def capB (b : Bool) (c : UInt8) : UInt8 := if b = true ∧ 97 ≤ c.toNat ∧ c.toNat ≤ 122 then c - 32 else c
def capGo : Bool → List UInt8 → List UInt8
  | _, [] => []
  | b, c :: r => capB b c :: capGo (decide (c = 45)) r
def capSt (b : Bool) (a : List UInt8) : Bool := a.foldl (fun _ c => decide (c = 45)) b
theorem capGo_append : ∀ (b : Bool) (a r : List UInt8), capGo b (a ++ r) = capGo b a ++ capGo (capSt b a) r
  | _, [], r => rfl
  | b, c :: a, r => by
    simp only [List.cons_append, capGo, capSt, List.foldl_cons, capGo_append (decide (c = 45)) a r]
theorem capGo_len : ∀ (b : Bool) (a : List UInt8), (capGo b a).length = a.length
  | _, [] => rfl
  | b, c :: a => by simp [capGo, capGo_len _ a]
theorem capSt_append (b : Bool) (a r : List UInt8) : capSt b (a ++ r) = capSt (capSt b a) r := by simp [capSt]
theorem capB_high (b : Bool) {c : UInt8} (h : 128 ≤ c.toNat) : capB b c = c := by rw [capB, if_neg (by omega)]
theorem cap_high : ∀ (b : Bool) (a : List UInt8), (∀ c ∈ a, 128 ≤ c.toNat) → capGo b a = a ∧ (a ≠ [] → capSt b a = false)
  | _, [], _ => ⟨rfl, fun h => absurd rfl h⟩
  | b, c :: a, h => by
    have hc := h c (by simp)
    have h45 : ¬ c = 45 := fun e => by subst e; revert hc; decide
    obtain ⟨i1, i2⟩ := cap_high (decide (c = 45)) a (fun x hx => h x (by simp [hx]))
    refine ⟨by simp only [capGo]; rw [capB_high b hc, i1], fun _ => ?_⟩
    show capSt (decide (c = 45)) a = false
    by_cases e : a = []
    · subst e; simp [capSt, h45]
    · exact i2 e
theorem cap_take {low : List UInt8} {x : Nat} (h : x < low.length) : capGo true (low.take (x + 1)) = capGo true (low.take x) ++ [capB (capSt true (low.take x)) (low.getD x 0)] ∧ capSt true (low.take (x + 1)) = decide (low.getD x 0 = 45) := by
  rw [take_succ_getD 0 h, capGo_append, capSt_append]
  exact ⟨rfl, rfl⟩
theorem capSt_at {low : List UInt8} {x : Nat} (h : x ≤ low.length) : capSt true (low.take x) = (decide (x = 0) || decide (low.getD (x - 1) 0 = 45)) := by
  cases x with
  | zero => rfl
  | succ x => rw [(cap_take (show x < low.length by omega)).2]; simp
def nEtag : List UInt8 := [69, 84, 97, 103]
def nTe : List UInt8 := [84, 69]
def nWww : List UInt8 := [87, 87, 87, 45, 65, 117, 116, 104, 101, 110, 116, 105, 99, 97, 116, 101]
def nDnt : List UInt8 := [68, 78, 84]
def nSet : List UInt8 := [83, 101, 116, 45, 67, 111, 111, 107, 105, 101]
def nProxy : List UInt8 := [80, 114, 111, 120, 121, 45, 65, 117, 116, 104, 101, 110, 116, 105, 99, 97, 116, 101]
def nameS (s : List UInt8) : List UInt8 :=
  if foldS nEtag s = true then nEtag else if foldS nTe s = true then nTe else if foldS nWww s = true then nWww else if foldS nDnt s = true then nDnt else capGo true (lowerS s)
theorem nameS_len (s : List UInt8) : (nameS s).length ≤ s.length + 16 := by
  unfold nameS
  split
  · simp [nEtag]
  · split
    · simp [nTe]
    · split
      · simp [nWww]
      · split
        · simp [nDnt]
        · rw [capGo_len]; simp [lowerS]
def singles : List (List UInt8) := [nSet, nWww, nProxy]
def singleS (n : List UInt8) : Bool := singles.any fun x => foldS x n
def canOf (l : List Fld) (f : Fld) : List Fld := if singleS f.1 = true then (allS l f.1).map (fun v => (nameS f.1, trimS v)) else [(nameS f.1, trimS (joinS (allS l f.1)))]
def canAt (l : List Fld) (i : Nat) : List Fld := if allS (l.take i) (l.getD i ([], [])).1 = [] then canOf l (l.getD i ([], [])) else []
def canT (l : List Fld) (k : Nat) : List Fld := (List.range k).flatMap (canAt l)
def canS (l : List Fld) : List Fld := canT l l.length
theorem canT_zero (l : List Fld) : canT l 0 = [] := rfl
theorem canT_succ (l : List Fld) (k : Nat) : canT l (k + 1) = canT l k ++ canAt l k := by simp [canT, List.range_succ]
theorem canAt_len (l : List Fld) (k : Nat) : (canAt l k).length ≤ l.length + 1 := by
  unfold canAt canOf
  split
  · split
    · rw [List.length_map]; have := allS_len l (l.getD k ([], [])).1; omega
    · simp
  · simp
theorem canT_len (l : List Fld) : ∀ k, (canT l k).length ≤ k * (l.length + 1)
  | 0 => by simp [canT_zero]
  | k + 1 => by
    have := canT_len l k
    have := canAt_len l k
    rw [canT_succ, List.length_append, Nat.add_mul]; omega
def nameC (l : List Fld) (key : List UInt8) : Nat := l.countP fun f => decide (lowerS f.1 = key)
theorem nameC_all (l : List Fld) (n : List UInt8) : nameC l (lowerS n) = (allS l n).length := by
  simp only [nameC, allS, List.length_map, List.countP_eq_length_filter]
  congr 1
  apply List.filter_congr
  intro f _
  rw [isN_one, foldS]
  simp [eq_comm]
theorem nameC_succ {l : List Fld} {k : Nat} (h : k < l.length) (key : List UInt8) : nameC (l.take (k + 1)) key = nameC (l.take k) key + if key = lowerS (l.getD k ([], [])).1 then 1 else 0 := by
  rw [take_succ_getD ([], []) h, nameC, List.countP_append]
  simp only [nameC, List.countP_cons, List.countP_nil, decide_eq_true_eq]
  by_cases e : lowerS (l.getD k ([], [])).1 = key
  · rw [if_pos e, if_pos e.symm]
  · rw [if_neg e, if_neg (fun h => e h.symm)]
theorem low_get (s : List UInt8) (x : Nat) (h : x < s.length) : (lowerS s).getD x 0 = lowerB (s.getD x 0) := by
  simp [lowerS, List.getD_eq_getElem?_getD, List.getElem?_map, List.getElem?_eq_getElem h]
theorem low_128 (c : UInt8) : (128 ≤ (lowerB c).toNat) ↔ 128 ≤ c.toNat := by
  rw [lowerB_nat]; split <;> omega
theorem low_45 (c : UInt8) : lowerB c = 45 ↔ c = 45 := by
  have h1 : ∀ d : UInt8, d = 45 ↔ d.toNat = 45 := fun d => ⟨fun e => by rw [e]; rfl, fun e => UInt8.toNat_inj.1 e⟩
  rw [h1, h1, lowerB_nat]; split <;> omega
theorem name_get {s : List UInt8} {x : Nat} (h : x < s.length) : (capGo true ((lowerS s).take x) ++ (lowerS s).drop x).getD (0 + x) 0 = (lowerS s).getD x 0 := by
  have hl : (lowerS s).length = s.length := lowerS_len s
  have h1 : (capGo true ((lowerS s).take x)).length = x := by rw [capGo_len, List.length_take]; omega
  rw [Nat.zero_add, List.getD_eq_getElem?_getD, List.getElem?_append_right (by omega), h1, Nat.sub_self, List.getElem?_drop, ← List.getD_eq_getElem?_getD]
  simp
theorem name_len (s : List UInt8) (x : Nat) (h : x ≤ s.length) : (capGo true ((lowerS s).take x) ++ (lowerS s).drop x).length = s.length := by
  have hl : (lowerS s).length = s.length := lowerS_len s
  rw [List.length_append, capGo_len, List.length_take, List.length_drop]; omega
theorem drop_low {s : List UInt8} {x : Nat} (h : x < s.length) : (lowerS s).drop x = (lowerS s).getD x 0 :: (lowerS s).drop (x + 1) := by
  have hl : (lowerS s).length = s.length := lowerS_len s
  rw [List.drop_eq_getElem_cons (by omega), List.getD_eq_getElem?_getD, List.getElem?_eq_getElem (by omega)]; rfl
theorem name_same {s : List UInt8} {x : Nat} (h : x < s.length) (hc : capB (capSt true ((lowerS s).take x)) ((lowerS s).getD x 0) = (lowerS s).getD x 0) :
    capGo true ((lowerS s).take x) ++ (lowerS s).drop x = capGo true ((lowerS s).take (x + 1)) ++ (lowerS s).drop (x + 1) := by
  have hl : (lowerS s).length = s.length := lowerS_len s
  rw [(cap_take (low := lowerS s) (x := x) (by omega)).1, hc, List.append_assoc, drop_low h]; rfl
theorem name_set {s : List UInt8} {x : Nat} (h : x < s.length) (v : Int) (hv : v = ((capB (capSt true ((lowerS s).take x)) ((lowerS s).getD x 0)).toNat : Nat)) :
    ((capGo true ((lowerS s).take x) ++ (lowerS s).drop x).map byteAV).set (0 + x) (.int .u8 v) = (capGo true ((lowerS s).take (x + 1)) ++ (lowerS s).drop (x + 1)).map byteAV := by
  have hl : (lowerS s).length = s.length := lowerS_len s
  have h1 : (capGo true ((lowerS s).take x)).length = x := by rw [capGo_len, List.length_take]; omega
  rw [hv]
  show List.set _ _ (byteAV (capB _ _)) = _
  rw [← List.map_set, Nat.zero_add, List.set_append_right _ _ (by omega), h1, Nat.sub_self, drop_low h, List.set_cons_zero, (cap_take (low := lowerS s) (x := x) (by omega)).1, List.append_assoc]
  rfl
theorem name_high {s : List UInt8} {x : Nat} (h : x < s.length) (hd : 128 ≤ (s.getD x 0).toNat) :
    capGo true ((lowerS s).take x) ++ (lowerS s).drop x = capGo true ((lowerS s).take (x + (runeAt s x).2)) ++ (lowerS s).drop (x + (runeAt s x).2) ∧ capSt true ((lowerS s).take (x + (runeAt s x).2)) = false := by
  have hl : (lowerS s).length = s.length := lowerS_len s
  obtain ⟨_, _, r1, r2, r3⟩ := rune_high h hd
  generalize (runeAt s x).2 = n at *
  have hh : ∀ c ∈ ((lowerS s).drop x).take n, 128 ≤ c.toNat := by
    intro c hc
    obtain ⟨k, hk, rfl⟩ := List.mem_iff_getElem.1 hc
    rw [List.length_take, List.length_drop] at hk
    have := r3 k (by omega)
    rw [← low_128, ← low_get s (x + k) (by omega), List.getD_eq_getElem?_getD, List.getElem?_eq_getElem (by omega)] at this
    simpa using this
  obtain ⟨c1, c2⟩ := cap_high (capSt true ((lowerS s).take x)) _ hh
  have e : (lowerS s).take (x + n) = (lowerS s).take x ++ ((lowerS s).drop x).take n := List.take_add
  refine ⟨?_, ?_⟩
  · rw [e, capGo_append, c1, List.append_assoc]
    congr 1
    rw [← List.drop_drop, List.take_append_drop]
  · rw [e, capSt_append]
    refine c2 (fun h0 => ?_)
    have := congrArg List.length h0
    rw [List.length_take, List.length_drop] at this
    simp only [List.length_nil] at this
    omega
theorem cap_val (b : Bool) (c : UInt8) (hb : b = true) : (if 97 ≤ (c.toNat : Int) ∧ (c.toNat : Int) ≤ 122 then (c.toNat : Int) - 32 else c.toNat) = ((capB b c).toNat : Nat) := by
  have := c.toNat_lt
  by_cases h : 97 ≤ c.toNat ∧ c.toNat ≤ 122
  · rw [if_pos (by omega), capB, if_pos ⟨hb, h.1, h.2⟩]
    have : (c - 32).toNat = c.toNat - 32 := by
      rw [UInt8.toNat_sub_of_le]
      · rfl
      · exact UInt8.le_iff_toNat_le.2 (by show 32 ≤ c.toNat; omega)
    rw [this]; omega
  · rw [if_neg (by omega), capB, if_neg (fun e => h e.2)]
def verS (minor : Int) : List UInt8 := if minor ≤ 0 then [72, 84, 84, 80, 47, 49, 46, 48] else [72, 84, 84, 80, 47, 49, 46, 49]
def lineS (m t : List UInt8) (n k : Int) (r : List UInt8) : List UInt8 := if m = [] then verS n ++ 32 :: (padS k 3 ++ 32 :: r) else m ++ 32 :: (t ++ 32 :: verS n)
def fldL (f : Fld) : List UInt8 := fldLine f.1 f.2
def headL (m t : List UInt8) (n k : Int) (r : List UInt8) (l : List Fld) : List (List UInt8) := lineS m t n k r :: (canS l).map fldL
theorem verS_len (n : Int) : (verS n).length = 8 := by unfold verS; split <;> rfl
theorem padS_len3 (k : Int) : (padS k 3).length ≤ 100 := by
  have := textI_len k
  unfold padS
  split
  · omega
  · rw [List.length_append, List.length_replicate]; omega
theorem canS_mem {l : List Fld} (h : fewF l = true) {g : Fld} (hg : g ∈ canS l) : g.1.length ≤ 116 ∧ g.2.length ≤ 12080 := by
  obtain ⟨h1, h2⟩ := fewF_len h
  simp only [canS, canT, List.mem_flatMap, List.mem_range] at hg
  obtain ⟨i, hi, hg⟩ := hg
  have mem : l.getD i ([], []) ∈ l := List.mem_of_getElem? (getD_of_lt (s := l) (d := ([], [])) hi)
  have hn := (h2 _ mem).1
  have nl := nameS_len (l.getD i ([], [])).1
  have jl := comb_len (l.getD i ([], [])).1 h
  unfold canAt at hg
  split at hg
  · unfold canOf at hg
    split at hg
    · obtain ⟨v, hv, rfl⟩ := List.mem_map.1 hg
      obtain ⟨f, hf, rfl, _⟩ := allS_mem hv
      have := (h2 f hf).2
      have := trimS_len f.2
      exact ⟨by simp only; omega, by simp only; omega⟩
    · simp only [List.mem_singleton] at hg
      subst hg
      have := trimS_len (joinS (allS l (l.getD i ([], [])).1))
      rw [combS] at jl
      exact ⟨by simp only; omega, by simp only; omega⟩
  · simp at hg
end Go.Mdl
end
section
set_option linter.unusedVariables false
set_option linter.unusedSimpArgs false
namespace Go.Proofs.Try.Dig
open Go Go.Abs Go.Proofs Go.Mdl
def T_specPad : Tbl := fun g E args => (addT (addT nilT 40 Go.Proofs.Try.Dig.tb_specText) 41 Go.Proofs.Try.Lib.tb_specRepeat) g E args
theorem T_specPad_ok : TblOK Try.prog T_specPad := (addT_ok (addT_ok nilT_ok (by decide +kernel) Go.Proofs.Try.Dig.tb_specText_ok) (by decide +kernel) Go.Proofs.Try.Lib.tb_specRepeat_ok)
set_option maxRecDepth 100000 in
set_option maxHeartbeats 4000000 in
theorem specPad (n wide : Int) (hn : inR .i64 n) (hw : -1000000 ≤ wide ∧ wide ≤ 9223372036854775807) : SpecE Try.prog 25 [] [.int .i64 n, .int .i64 wide] [] (.str (padS n wide)) := by
  refine specF0 (C := T_specPad) (wr := false) (D := fun _ => []) (U := fun _ => none) (res := [.str (padS n wide)]) Try.Ty.mixed T_specPad_ok Try.func25 (nA := 2) (by decide +kernel) rfl (fun _ => rfl) ?_
  simp only [Try.f25, bodyOf, rlOf]
  rw [W_V]
  simp (config := {maxSteps := 2000000}) only [T_specPad, Go.Proofs.Try.Dig.tb_specText, Go.Proofs.Try.Lib.tb_specRepeat, go_sem, seval]
  (try simp (config := {maxSteps := 2000000}) only [gimp, impB, isT, go_sem, seval])
  have h1 := textI_len n
  simp only [inR] at hn
  refine ⟨hn, fun h => by simp [padS, h], fun h => ?_⟩
  simp only [repeatL_one]
  refine ⟨by omega, by omega, by simp only [List.length_replicate]; omega, ?_⟩
  simp [padS, Int.not_lt.2 h]
def tb_specPad : List Blk → List AV → Option (List Blk × AV × Prop)
  | [], [.int .i64 n, .int .i64 wide] => some ([], .str (padS n wide), (inR .i64 n) ∧ (-1000000 ≤ wide ∧ wide ≤ 9223372036854775807))
  | _, _ => none
theorem tb_specPad_ok : ∀ E args E' res p, tb_specPad E args = some (E', res, p) → p → SpecE Try.prog 25 E args E' res := by
  intro E args E' res p h hp
  unfold tb_specPad at h
  split at h
  · simp only [Option.some.injEq, Prod.mk.injEq] at h
    obtain ⟨rfl, rfl, rfl⟩ := h
    exact (specPad _ _ hp.1 hp.2)
  · cases h
end Go.Proofs.Try.Dig
end
section
set_option linter.unusedVariables false
set_option linter.unusedSimpArgs false
namespace Go.Proofs.Try.Can
open Go Go.Abs Go.Proofs Go.Mdl
def T_specSpecial : Tbl := fun g E args => nilT g E args
theorem T_specSpecial_ok : TblOK Try.prog T_specSpecial := nilT_ok
set_option maxRecDepth 100000 in
set_option maxHeartbeats 4000000 in
theorem specSpecial : SpecE Try.prog 42 [] [] [] (.agg [.str nEtag, .str nTe, .str nWww, .str nDnt]) := by
  refine specF0 (C := T_specSpecial) (wr := false) (D := fun _ => []) (U := fun _ => none) (res := [.agg [.str nEtag, .str nTe, .str nWww, .str nDnt]]) Try.Ty.mixed T_specSpecial_ok Try.func42 (nA := 0) (by decide +kernel) rfl (fun _ => rfl) ?_
  simp only [Try.f42, bodyOf, rlOf]
  rw [W_V]
  simp (config := {maxSteps := 2000000}) only [T_specSpecial, go_sem, seval, nEtag, nTe, nWww, nDnt]
  (try simp (config := {maxSteps := 2000000}) only [gimp, impB, isT, go_sem, seval])
def tb_specSpecial : List Blk → List AV → Option (List Blk × AV × Prop)
  | [], [] => some ([], .agg [.str nEtag, .str nTe, .str nWww, .str nDnt], True)
  | _, _ => none
theorem tb_specSpecial_ok : ∀ E args E' res p, tb_specSpecial E args = some (E', res, p) → p → SpecE Try.prog 42 E args E' res := by
  intro E args E' res p h hp
  unfold tb_specSpecial at h
  split at h
  · simp only [Option.some.injEq, Prod.mk.injEq] at h
    obtain ⟨rfl, rfl, rfl⟩ := h
    exact specSpecial
  · cases h
def T_specUpper : Tbl := fun g E args => nilT g E args
theorem T_specUpper_ok : TblOK Try.prog T_specUpper := nilT_ok
set_option maxRecDepth 100000 in
set_option maxHeartbeats 4000000 in
theorem specUpper (r : Int) (hr : 0 ≤ r ∧ r ≤ 255) : SpecE Try.prog 44 [] [.int .i32 r] [] (.int .i32 (if 97 ≤ r ∧ r ≤ 122 then r - 32 else r)) := by
  refine specF0 (C := T_specUpper) (wr := false) (D := fun _ => []) (U := fun _ => none) (res := [.int .i32 (if 97 ≤ r ∧ r ≤ 122 then r - 32 else r)]) Try.Ty.mixed T_specUpper_ok Try.func44 (nA := 1) (by decide +kernel) rfl (fun _ => rfl) ?_
  simp only [Try.f44, bodyOf, rlOf]
  rw [W_V]
  simp (config := {maxSteps := 2000000}) only [T_specUpper, go_sem, seval]
  (try simp (config := {maxSteps := 2000000}) only [gimp, impB, isT, go_sem, seval])
  refine ⟨fun h1 h2 => ⟨by omega, by omega, by rw [if_pos ⟨h1, h2⟩]; omega⟩, fun h => ?_⟩
  rw [if_neg]
  rintro ⟨h1, h2⟩
  rw [decide_eq_true h1, decide_eq_true h2] at h
  cases h
def tb_specUpper : List Blk → List AV → Option (List Blk × AV × Prop)
  | [], [.int .i32 r] => some ([], .int .i32 (if 97 ≤ r ∧ r ≤ 122 then r - 32 else r), (0 ≤ r ∧ r ≤ 255))
  | _, _ => none
theorem tb_specUpper_ok : ∀ E args E' res p, tb_specUpper E args = some (E', res, p) → p → SpecE Try.prog 44 E args E' res := by
  intro E args E' res p h hp
  unfold tb_specUpper at h
  split at h
  · simp only [Option.some.injEq, Prod.mk.injEq] at h
    obtain ⟨rfl, rfl, rfl⟩ := h
    exact (specUpper _ hp)
  · cases h
def T_specName : Tbl := fun g E args => (addT (addT (addT (addT nilT 42 Go.Proofs.Try.Can.tb_specSpecial) 44 Go.Proofs.Try.Can.tb_specUpper) 43 Go.Proofs.Try.Oct.tb_specFold) 29 Go.Proofs.Try.Oct.tb_specLower) g E args
theorem T_specName_ok : TblOK Try.prog T_specName := (addT_ok (addT_ok (addT_ok (addT_ok nilT_ok (by decide +kernel) Go.Proofs.Try.Can.tb_specSpecial_ok) (by decide +kernel) Go.Proofs.Try.Can.tb_specUpper_ok) (by decide +kernel) Go.Proofs.Try.Oct.tb_specFold_ok) (by decide +kernel) Go.Proofs.Try.Oct.tb_specLower_ok)
set_option maxRecDepth 100000 in
set_option maxHeartbeats 4000000 in
theorem specName (s : List UInt8) (hs : s.length ≤ 1000000) : SpecE Try.prog 27 [] [.str s] [] (.str (nameS s)) := by
  refine specF0 (C := T_specName) (wr := false) (D := fun _ => []) (U := fun _ => none) (res := [.str (nameS s)]) Try.Ty.mixed T_specName_ok Try.func27 (nA := 1) (by decide +kernel) rfl (fun _ => rfl) ?_
  simp only [Try.f27, bodyOf, rlOf]
  rw [W_V]
  simp (config := {maxSteps := 2000000}) only [T_specName, Go.Proofs.Try.Can.tb_specSpecial, Go.Proofs.Try.Can.tb_specUpper, Go.Proofs.Try.Oct.tb_specFold, Go.Proofs.Try.Oct.tb_specLower, go_sem, seval]
  (try simp (config := {maxSteps := 2000000}) only [gimp, impB, isT, go_sem, seval])
  have low_len : (lowerS s).length = s.length := lowerS_len s
  refine VL_inv (X := Int) (fun k => ⟨[(0, .str s), (10, .agg [.str nEtag, .str nTe, .str nWww, .str nDnt]), (11, .int .i64 k)], []⟩) (fun k => 0 ≤ k ∧ k ≤ 4 ∧ (0 < k → foldS nEtag s = false) ∧ (1 < k → foldS nTe s = false) ∧ (2 < k → foldS nWww s = false) ∧ (3 < k → foldS nDnt s = false)) (fun k => (4 - k).toNat) 0 ?_ ?_ ?_
  · simp only [T_specName, Go.Proofs.Try.Can.tb_specSpecial, Go.Proofs.Try.Can.tb_specUpper, Go.Proofs.Try.Oct.tb_specFold, Go.Proofs.Try.Oct.tb_specLower, go_sem, seval]
    try rfl
  · exact ⟨by decide, by decide, fun h => absurd h (by decide), fun h => absurd h (by decide), fun h => absurd h (by decide), fun h => absurd h (by decide)⟩
  rintro k ⟨k0, k4, f0, f1, f2, f3⟩
  have hc : k = 0 ∨ k = 1 ∨ k = 2 ∨ k = 3 ∨ k = 4 := by omega
  rcases hc with rfl | rfl | rfl | rfl | rfl
  all_goals simp (config := {maxSteps := 2000000}) only [T_specName, Go.Proofs.Try.Can.tb_specSpecial, Go.Proofs.Try.Can.tb_specUpper, Go.Proofs.Try.Oct.tb_specFold, Go.Proofs.Try.Oct.tb_specLower, go_sem, seval]
  all_goals (try simp (config := {maxSteps := 2000000}) only [gimp, impB, isT, go_sem, seval])
  · exact ⟨by decide, fun h => by rw [nameS, if_pos h], fun h => ⟨1, rfl, ⟨by decide, by decide, fun _ => h, fun h => absurd h (by decide), fun h => absurd h (by decide), fun h => absurd h (by decide)⟩, by decide⟩⟩
  · have g0 := f0 (by decide)
    exact ⟨by decide, fun h => by rw [nameS, g0, if_neg (by simp), if_pos h], fun h => ⟨2, rfl, ⟨by decide, by decide, fun _ => g0, fun _ => h, fun h => absurd h (by decide), fun h => absurd h (by decide)⟩, by decide⟩⟩
  · have g0 := f0 (by decide)
    have g1 := f1 (by decide)
    exact ⟨by decide, fun h => by rw [nameS, g0, if_neg (by simp), g1, if_neg (by simp), if_pos h], fun h => ⟨3, rfl, ⟨by decide, by decide, fun _ => g0, fun _ => g1, fun _ => h, fun h => absurd h (by decide)⟩, by decide⟩⟩
  · have g0 := f0 (by decide)
    have g1 := f1 (by decide)
    have g2 := f2 (by decide)
    exact ⟨by decide, fun h => by rw [nameS, g0, if_neg (by simp), g1, if_neg (by simp), g2, if_neg (by simp), if_pos h], fun h => ⟨4, rfl, ⟨by decide, by decide, fun _ => g0, fun _ => g1, fun _ => g2, fun _ => h⟩, by decide⟩⟩
  have hN : nameS s = capGo true (lowerS s) := by
    rw [nameS, f0 (by decide), if_neg (by simp), f1 (by decide), if_neg (by simp), f2 (by decide), if_neg (by simp), f3 (by decide), if_neg (by simp)]
  rw [hN]
  clear f0 f1 f2 f3 hN
  have hm : (1000000 : Nat) ≤ maxLen := by decide
  refine ⟨by omega, by omega, ?_⟩
  refine VL_inv (X := Nat × Bool) (fun x => ⟨[(0, .str s), (5, .ref 352 0 s.length s.length), (6, .bool x.2), (23, .it 384)], [(384, .iter s x.1), (352, .cells 1 false (.int .u8 0) ((capGo true ((lowerS s).take x.1) ++ (lowerS s).drop x.1).map byteAV))]⟩) (fun x => x.1 ≤ s.length ∧ x.2 = capSt true ((lowerS s).take x.1)) (fun x => s.length - x.1) (0, true) ?_ ?_ ?_
  · simp only [T_specName, Go.Proofs.Try.Can.tb_specSpecial, Go.Proofs.Try.Can.tb_specUpper, Go.Proofs.Try.Oct.tb_specFold, Go.Proofs.Try.Oct.tb_specLower, go_sem, seval]
    exact ⟨low_len, rfl⟩
  · exact ⟨Nat.zero_le _, rfl⟩
  rintro ⟨x, b⟩ ⟨i1, i2⟩
  simp only at i1 i2
  by_cases hx : x < s.length
  · have gx := name_get hx
    have hn := name_len s x i1
    have gl := low_get s x hx
    simp (config := {maxSteps := 2000000}) only [T_specName, Go.Proofs.Try.Can.tb_specSpecial, Go.Proofs.Try.Can.tb_specUpper, Go.Proofs.Try.Oct.tb_specFold, Go.Proofs.Try.Oct.tb_specLower, go_sem, seval]
    (try simp (config := {maxSteps := 2000000}) only [gimp, impB, isT, go_sem, seval])
    rw [gx, hn]
    have g8 := (lowerS s).getD x 0 |>.toNat_lt
    have hv := cap_val b ((lowerS s).getD x 0)
    have h128 := low_128 (s.getD x 0)
    rw [← gl] at h128
    have hst := (cap_take (low := lowerS s) (x := x) (by omega)).2
    have h45 : ((lowerS s).getD x 0 = 45) ↔ s.getD x 0 = 45 := by rw [gl]; exact low_45 _
    have e45 : s.getD x 0 = 45 ↔ (s.getD x 0).toNat = 45 := ⟨fun e => by rw [e]; rfl, fun e => UInt8.toNat_inj.1 e⟩
    have rl : (s.getD x 0).toNat < 128 → runeAt s x = (((s.getD x 0).toNat : Int), 1) := fun h => rune_low h
    have nx : (s.getD x 0).toNat < 128 → decide ((runeAt s x).1 = 45) = capSt true ((lowerS s).take (x + 1)) ∧ x + (runeAt s x).2 = x + 1 := fun h => by
      rw [rl h, hst]
      refine ⟨?_, rfl⟩
      rw [Bool.eq_iff_iff, decide_eq_true_eq, decide_eq_true_eq, h45, e45]
      simp only; omega
    have c8 := (capB b ((lowerS s).getD x 0)).toNat_lt
    refine ⟨fun _ => ⟨hx, hx, ⟨rfl, by omega, by omega⟩, ⟨rfl, by omega⟩, ⟨by omega, by omega⟩, fun hb h1 => ?_, fun hb => ?_⟩, fun h => absurd hx h⟩
    · have hd : (s.getD x 0).toNat < 128 := by omega
      obtain ⟨n1, n2⟩ := nx hd
      rw [hv hb, if_pos hx]
      exact ⟨⟨by omega, by omega⟩, ⟨by omega, by omega⟩, ⟨rfl, by omega, by omega⟩, ⟨rfl, by omega⟩, (x + 1, capSt true ((lowerS s).take (x + 1))), ⟨n1, n2, name_set hx _ (by rw [i2])⟩, ⟨by simp only; omega, rfl⟩, by simp only; omega⟩
    · rw [if_pos hx]
      by_cases hd : (s.getD x 0).toNat < 128
      · obtain ⟨n1, n2⟩ := nx hd
        have hbf : b = false := by
          have h1 : decide ((((lowerS s).getD x 0).toNat : Int) < 128) = true := decide_eq_true (by omega)
          rw [h1, Bool.and_true] at hb
          exact hb
        refine ⟨(x + 1, capSt true ((lowerS s).take (x + 1))), ⟨n1, n2, ?_⟩, ⟨by simp only; omega, rfl⟩, by simp only; omega⟩
        rw [name_same hx (by rw [← i2, hbf]; simp [capB])]
      · obtain ⟨q1, q2⟩ := name_high hx (by omega)
        obtain ⟨r0, _, r1, r2, _⟩ := rune_high hx (by omega)
        refine ⟨(x + (runeAt s x).2, false), ⟨?_, rfl, by rw [q1]⟩, ⟨r2, q2.symm⟩, by simp only; omega⟩
        exact decide_eq_false (by omega)
  · have e : x = s.length := by omega
    subst e
    have hn := name_len s s.length (Nat.le_refl _)
    simp (config := {maxSteps := 2000000}) only [T_specName, Go.Proofs.Try.Can.tb_specSpecial, Go.Proofs.Try.Can.tb_specUpper, Go.Proofs.Try.Oct.tb_specFold, Go.Proofs.Try.Oct.tb_specLower, go_sem, seval]
    (try simp (config := {maxSteps := 2000000}) only [gimp, impB, isT, go_sem, seval])
    refine ⟨fun h => absurd h hx, fun _ => ⟨hn.symm, ?_⟩⟩
    rw [List.take_of_length_le (by omega), List.take_of_length_le (by omega), List.drop_eq_nil_of_le (by omega), List.append_nil]
def tb_specName : List Blk → List AV → Option (List Blk × AV × Prop)
  | [], [.str s] => some ([], .str (nameS s), (s.length ≤ 1000000))
  | _, _ => none
theorem tb_specName_ok : ∀ E args E' res p, tb_specName E args = some (E', res, p) → p → SpecE Try.prog 27 E args E' res := by
  intro E args E' res p h hp
  unfold tb_specName at h
  split at h
  · simp only [Option.some.injEq, Prod.mk.injEq] at h
    obtain ⟨rfl, rfl, rfl⟩ := h
    exact (specName _ hp)
  · cases h
def T_specFoldN : Tbl := fun g E args => (addT nilT 43 Go.Proofs.Try.Oct.tb_specFold) g E args
theorem T_specFoldN_ok : TblOK Try.prog T_specFoldN := (addT_ok nilT_ok (by decide +kernel) Go.Proofs.Try.Oct.tb_specFold_ok)
set_option maxRecDepth 100000 in
set_option maxHeartbeats 4000000 in
theorem specFoldN (s w : List UInt8) (hs : s.length ≤ maxLen) : SpecE Try.prog 49 [.cells 1 false (.str []) [.str w]] [.str s, .ptr 0 0 0 1] [.cells 1 false (.str []) [.str w]] (.bool (foldS s w)) := by
  refine specFE (C := T_specFoldN) (wr := false) (D := fun _ => []) (U := fun _ => none) (E := [.cells 1 false (.str []) [.str w]]) (E' := [.cells 1 false (.str []) [.str w]]) (res := [.bool (foldS s w)]) [] Try.Ty.mixed T_specFoldN_ok Try.func49 (args := [.str s, .ptr 0 0 0 1]) (nE := 1) (nA := 2) (by decide +kernel) rfl rfl ?_
  simp only [Try.f49, bodyOf, rlOf]
  rw [W_V]
  simp (config := {maxSteps := 2000000}) only [T_specFoldN, Go.Proofs.Try.Oct.tb_specFold, go_sem, seval]
  (try simp (config := {maxSteps := 2000000}) only [gimp, impB, isT, go_sem, seval])
  exact hs
set_option maxRecDepth 100000 in
set_option maxHeartbeats 4000000 in
theorem specFoldIdx (w : List UInt8) : SpecE Try.prog 63 [.cells 1 false (.str []) (singles.map .str), .cells 1 false (.str []) [.str w]] [.ref 0 0 3 3, .clo 49 0 [.ptr 1 0 0 1]] [.cells 1 false (.str []) (singles.map .str), .cells 1 false (.str []) [.str w]] (.int .i64 (idxP (fun s => foldS s w) singles)) := by
  exact Slc.idxO_S (by decide) (boxStr w) (fun _ => rfl) (q := fun x => x.length ≤ maxLen) (fun x hx => specFoldN x w hx) singles (by decide) (by decide) 3 3 rfl rfl
def tb_specFoldIdx : List Blk → List AV → Option (List Blk × AV × Prop)
  | [.cells 1 false d c, .cells 1 false d2 [.str w]], [.ref 0 0 3 3, .clo 49 0 [.ptr 1 0 0 1]] => some ([.cells 1 false d c, .cells 1 false (.str []) [.str w]], .int .i64 (idxP (fun s => foldS s w) singles), d = .str [] ∧ d2 = .str [] ∧ c = singles.map .str)
  | _, _ => none
theorem tb_specFoldIdx_ok : ∀ E args E' res q, tb_specFoldIdx E args = some (E', res, q) → q → SpecE Try.prog 63 E args E' res := by
  intro E args E' res q h hq
  unfold tb_specFoldIdx at h
  split at h
  · simp only [Option.some.injEq, Prod.mk.injEq] at h
    obtain ⟨rfl, rfl, rfl⟩ := h
    obtain ⟨rfl, rfl, rfl⟩ := hq
    exact specFoldIdx _
  · cases h
def T_specFoldHas : Tbl := fun g E args => (addT nilT 63 Go.Proofs.Try.Can.tb_specFoldIdx) g E args
theorem T_specFoldHas_ok : TblOK Try.prog T_specFoldHas := (addT_ok nilT_ok (by decide +kernel) Go.Proofs.Try.Can.tb_specFoldIdx_ok)
set_option maxRecDepth 100000 in
set_option maxHeartbeats 4000000 in
theorem specFoldHas (w : List UInt8) : SpecE Try.prog 48 [.cells 1 false (.str []) (singles.map .str), .cells 1 false (.str []) [.str w]] [.ref 0 0 3 3, .clo 49 0 [.ptr 1 0 0 1]] [.cells 1 false (.str []) (singles.map .str), .cells 1 false (.str []) [.str w]] (.bool (singleS w)) := by
  refine specFE (C := T_specFoldHas) (wr := false) (D := fun _ => []) (U := fun _ => none) (E := [.cells 1 false (.str []) (singles.map .str), .cells 1 false (.str []) [.str w]]) (E' := [.cells 1 false (.str []) (singles.map .str), .cells 1 false (.str []) [.str w]]) (res := [.bool (singleS w)]) [] Try.Ty.mixed T_specFoldHas_ok Try.func48 (args := [.ref 0 0 3 3, .clo 49 0 [.ptr 1 0 0 1]]) (nE := 2) (nA := 2) (by decide +kernel) rfl rfl ?_
  simp only [Try.f48, bodyOf, rlOf]
  rw [W_V]
  simp (config := {maxSteps := 2000000}) only [T_specFoldHas, Go.Proofs.Try.Can.tb_specFoldIdx, go_sem, seval]
  (try simp (config := {maxSteps := 2000000}) only [gimp, impB, isT, go_sem, seval])
  rw [Bool.eq_iff_iff, decide_eq_true_eq, idxP_ge]; rfl
def tb_specFoldHas : List Blk → List AV → Option (List Blk × AV × Prop)
  | [.cells 1 false d c, .cells 1 false d2 [.str w]], [.ref 0 0 3 3, .clo 49 0 [.ptr 1 0 0 1]] => some ([.cells 1 false d c, .cells 1 false (.str []) [.str w]], .bool (singleS w), d = .str [] ∧ d2 = .str [] ∧ c = singles.map .str)
  | _, _ => none
theorem tb_specFoldHas_ok : ∀ E args E' res q, tb_specFoldHas E args = some (E', res, q) → q → SpecE Try.prog 48 E args E' res := by
  intro E args E' res q h hq
  unfold tb_specFoldHas at h
  split at h
  · simp only [Option.some.injEq, Prod.mk.injEq] at h
    obtain ⟨rfl, rfl, rfl⟩ := h
    obtain ⟨rfl, rfl, rfl⟩ := hq
    exact specFoldHas _
  · cases h
def T_specSingle : Tbl := fun g E args => (addT nilT 48 Go.Proofs.Try.Can.tb_specFoldHas) g E args
theorem T_specSingle_ok : TblOK Try.prog T_specSingle := (addT_ok nilT_ok (by decide +kernel) Go.Proofs.Try.Can.tb_specFoldHas_ok)
set_option maxRecDepth 100000 in
set_option maxHeartbeats 4000000 in
theorem specSingle (n : List UInt8) : SpecE Try.prog 31 [] [.str n] [] (.bool (singleS n)) := by
  refine specF0 (C := T_specSingle) (wr := false) (D := fun _ => []) (U := fun _ => none) (res := [.bool (singleS n)]) Try.Ty.mixed T_specSingle_ok Try.func31 (nA := 1) (by decide +kernel) rfl (fun _ => rfl) ?_
  simp only [Try.f31, bodyOf, rlOf]
  rw [W_V]
  simp (config := {maxSteps := 2000000}) only [T_specSingle, Go.Proofs.Try.Can.tb_specFoldHas, go_sem, seval, singles, nSet, nWww, nProxy]
  (try simp (config := {maxSteps := 2000000}) only [gimp, impB, isT, go_sem, seval])
def tb_specSingle : List Blk → List AV → Option (List Blk × AV × Prop)
  | [], [.str n] => some ([], .bool (singleS n), True)
  | _, _ => none
theorem tb_specSingle_ok : ∀ E args E' res p, tb_specSingle E args = some (E', res, p) → p → SpecE Try.prog 31 E args E' res := by
  intro E args E' res p h hp
  unfold tb_specSingle at h
  split at h
  · simp only [Option.some.injEq, Prod.mk.injEq] at h
    obtain ⟨rfl, rfl, rfl⟩ := h
    exact (specSingle _)
  · cases h
def T_specPut : Tbl := fun g E args => (addT (addT nilT 27 Go.Proofs.Try.Can.tb_specName) 28 Go.Proofs.Try.Oct.tb_specTrim) g E args
theorem T_specPut_ok : TblOK Try.prog T_specPut := (addT_ok (addT_ok nilT_ok (by decide +kernel) Go.Proofs.Try.Can.tb_specName_ok) (by decide +kernel) Go.Proofs.Try.Oct.tb_specTrim_ok)
set_option maxRecDepth 100000 in
set_option maxHeartbeats 4000000 in
theorem specPut (l : List Fld) (n v : List UInt8) (hl : l.length ≤ 1000000) (hn : n.length ≤ 1000000) (hv : v.length ≤ 1000000) : SpecE Try.prog 26 [.cells 1 false .nils [.ref 1 0 l.length l.length], .cells 2 false (.agg [.str [], .str []]) (l.map enc_fld)] [.str n, .str v, .ptr 0 0 0 1] [.cells 1 false .nils [.ref 1 0 (l ++ [(nameS n, trimS v)]).length (l ++ [(nameS n, trimS v)]).length], .cells 2 false (.agg [.str [], .str []]) ((l ++ [(nameS n, trimS v)]).map enc_fld)] (.tuple []) := by
  refine specFE (C := T_specPut) (wr := false) (D := fun i => if i = 0 then [6, 7, 8, 70000, 10000] else []) (U := fun _ => none) (E := [.cells 1 false .nils [.ref 1 0 l.length l.length], .cells 2 false (.agg [.str [], .str []]) (l.map enc_fld)]) (E' := [.cells 1 false .nils [.ref 1 0 (l ++ [(nameS n, trimS v)]).length (l ++ [(nameS n, trimS v)]).length], .cells 2 false (.agg [.str [], .str []]) ((l ++ [(nameS n, trimS v)]).map enc_fld)]) (res := []) [] Try.Ty.mixed T_specPut_ok Try.func26 (args := [.str n, .str v, .ptr 0 0 0 1]) (nE := 2) (nA := 3) (by decide +kernel) rfl rfl ?_
  simp only [Try.f26, bodyOf, rlOf]
  rw [W_V]
  simp (config := {maxSteps := 2000000}) only [T_specPut, Go.Proofs.Try.Can.tb_specName, Go.Proofs.Try.Oct.tb_specTrim, go_sem, seval]
  (try simp (config := {maxSteps := 2000000}) only [gimp, impB, isT, go_sem, seval])
  have hm : (1000000 : Nat) ≤ maxLen := by decide
  refine ⟨hn, by omega, by omega, ⟨by simp, ?_⟩, ?_, ?_⟩
  · rw [List.map_append]; rfl
  · rw [List.map_append]; rfl
  · simp
def tb_put : List Blk → List AV → Option (List Blk × AV × Prop)
  | [.cells 1 false d1 [.ref 1 0 n m], .cells 2 false d2 c], [.str k, .str v, .ptr 0 0 0 1] =>
    some ([.cells 1 false d1 [.ref 1 0 (c.length + 1) (c.length + 1)], .cells 2 false d2 (c ++ [.agg [.str (nameS k), .str (trimS v)]])], .tuple [],
      d1 = .nils ∧ d2 = .agg [.str [], .str []] ∧ n = c.length ∧ m = c.length ∧ (c.map dec_fld).map enc_fld = c ∧ c.length ≤ 1000000 ∧ k.length ≤ 1000000 ∧ v.length ≤ 1000000)
  | _, _ => none
theorem tb_put_ok : ∀ E args E' res q, tb_put E args = some (E', res, q) → q → SpecE Try.prog 26 E args E' res := by
  intro E args E' res q h hq
  unfold tb_put at h
  split at h
  · simp only [Option.some.injEq, Prod.mk.injEq] at h
    obtain ⟨rfl, rfl, rfl⟩ := h
    obtain ⟨rfl, rfl, rfl, rfl, h1, h2, h3, h4⟩ := hq
    rename_i c k v
    have := specPut (c.map dec_fld) k v (by rw [List.length_map]; exact h2) h3 h4
    simp only [List.map_append, h1, List.length_append, List.length_map, List.length_singleton] at this
    exact this
  · cases h
def pT : Tbl := addT nilT 26 tb_put
theorem pT_ok : TblOK Try.prog pT := addT_ok nilT_ok (by decide +kernel) tb_put_ok
end Go.Proofs.Try.Can
end
section
set_option linter.unusedVariables false
set_option linter.unusedSimpArgs false
namespace Go.Proofs.Try.Can
open Go Go.Abs Go.Proofs Go.Mdl
def T_specFields : Tbl := fun g E args => (addT (addT (addT (addT pT 29 Go.Proofs.Try.Oct.tb_specLower) 30 Go.Proofs.Try.Hdr.tb_specAll) 31 Go.Proofs.Try.Can.tb_specSingle) 32 Go.Proofs.Try.Lists.tb_specJoin) g E args
theorem T_specFields_ok : TblOK Try.prog T_specFields := (addT_ok (addT_ok (addT_ok (addT_ok pT_ok (by decide +kernel) Go.Proofs.Try.Oct.tb_specLower_ok) (by decide +kernel) Go.Proofs.Try.Hdr.tb_specAll_ok) (by decide +kernel) Go.Proofs.Try.Can.tb_specSingle_ok) (by decide +kernel) Go.Proofs.Try.Lists.tb_specJoin_ok)
set_option maxRecDepth 100000 in
set_option maxHeartbeats 4000000 in
theorem specFields (l : List Fld) (hl : fewF l = true) : SpecE Try.prog 18 [] [enc_flds l] [] (enc_flds (canS l)) := by
  refine specF0 (C := T_specFields) (wr := false) (D := fun i => if i = 17 then [5] else []) (U := fun _ => none) (res := [enc_flds (canS l)]) Try.Ty.mixed T_specFields_ok Try.func18 (nA := 1) (by decide +kernel) rfl (fun _ => rfl) ?_
  simp only [Try.f18, bodyOf, rlOf]
  rw [W_V]
  simp (config := {maxSteps := 2000000}) only [T_specFields, Go.Proofs.Try.Oct.tb_specLower, Go.Proofs.Try.Hdr.tb_specAll, Go.Proofs.Try.Can.tb_specSingle, Go.Proofs.Try.Lists.tb_specJoin, go_sem, seval, pT, tb_put]
  (try simp (config := {maxSteps := 2000000}) only [gimp, impB, isT, go_sem, seval])
  refine VL_inv (X := Nat × List (List UInt8 × Int)) (fun x => ⟨[(0, enc_flds l), (3, .ptr 64 0 0 1), (4, .mp 208), (5, .clo 26 0 [.ptr 64 0 0 1]), (14, enc_flds l), (15, .int .i64 l.length), (16, .int .i64 x.1)],
    [(208, .map x.2), (64, .cells 1 false .nils [.ref 320 0 (canT l x.1).length (canT l x.1).length]), (320, .cells 2 false (.agg [.str [], .str []]) ((canT l x.1).map enc_fld))]⟩)
    (fun x => x.1 ≤ l.length ∧ ∀ key, mget x.2 key = (nameC (l.take x.1) key : Nat)) (fun x => l.length - x.1) (0, []) ?_ ?_ ?_
  · simp only [canT_zero, T_specFields, Go.Proofs.Try.Oct.tb_specLower, Go.Proofs.Try.Hdr.tb_specAll, Go.Proofs.Try.Can.tb_specSingle, Go.Proofs.Try.Lists.tb_specJoin, go_sem, seval, pT, tb_put]
  · exact ⟨Nat.zero_le _, fun key => rfl⟩
  rintro ⟨i, es⟩ ⟨i1, i2⟩
  simp only at i1 i2
  simp (config := {maxSteps := 2000000}) only [T_specFields, Go.Proofs.Try.Oct.tb_specLower, Go.Proofs.Try.Hdr.tb_specAll, Go.Proofs.Try.Can.tb_specSingle, Go.Proofs.Try.Lists.tb_specJoin, go_sem, seval, pT, tb_put]
  (try simp (config := {maxSteps := 2000000}) only [gimp, impB, isT, go_sem, seval])
  obtain ⟨fl, fs⟩ := fewF_len hl
  have hm : (1000000 : Nat) ≤ maxLen := by decide
  have ct := canT_len l i
  have ct2 : i * (l.length + 1) ≤ 40 * 41 := Nat.mul_le_mul (by omega) (by omega)
  have mrf : ∀ (σ : Nat → Nat) (m : List Fld) (a b : List UInt8), (m.map enc_fld ++ [AV.agg [AV.str a, AV.str b]]).map (ren σ) = (m ++ [(a, b)]).map enc_fld := fun σ m a b => by
    rw [show [AV.agg [AV.str a, AV.str b]] = [(a, b)].map enc_fld from rfl, ← List.map_append, renL_fld]
  simp only [mrf]
  refine ⟨fun hlt => ?_, fun hge => ?_⟩
  · have hi : i < l.length := by omega
    have mem : l.getD i ([], []) ∈ l := List.mem_of_getElem? (getD_of_lt (s := l) (d := ([], [])) hi)
    obtain ⟨fn, fv⟩ := fs _ mem
    have nc := fun key => nameC_succ (l := l) hi key
    have cs := canT_succ l i
    have ca : canAt l i = if allS (l.take i) (l.getD i ([], [])).1 = [] then canOf l (l.getD i ([], [])) else [] := rfl
    have hcn := nameC_all (l.take i) (l.getD i ([], [])).1
    have hg := i2 (lowerS (l.getD i ([], [])).1)
    have al := allS_len l (l.getD i ([], [])).1
    have al2 := allS_len (l.take i) (l.getD i ([], [])).1
    rw [List.length_take] at al2
    have jl := comb_len (l.getD i ([], [])).1 hl
    rw [combS, ← join_eq] at jl
    have av : ∀ v ∈ allS l (l.getD i ([], [])).1, v.length ≤ 300 := fun v hv => by
      obtain ⟨g, hg2, rfl, _⟩ := allS_mem hv
      exact (fs g hg2).2
    generalize l.getD i ([], []) = f at *
    have nes : ∀ key, mget (mput es (lowerS f.1) (mget es (lowerS f.1) + 1)) key = (nameC (l.take (i + 1)) key : Nat) := fun key => by
      rw [mget_mput, nc key]
      by_cases e : key = lowerS f.1
      · rw [if_pos e, if_pos e, e, hg]; simp
      · rw [if_neg e, if_neg e, i2 key]; simp
    have hgo : mget (mput es (lowerS f.1) (mget es (lowerS f.1) + 1)) (lowerS f.1) = ((allS (l.take i) f.1).length : Nat) + 1 := by
      rw [mget_mput, if_pos rfl, hg, hcn]
    rw [hgo]
    generalize mput es (lowerS f.1) (mget es (lowerS f.1) + 1) = es' at *
    refine ⟨by omega, by omega, by omega, fun h1 => ?_, fun h1 => ⟨⟨by omega, by omega⟩, fun hs => ?_, fun hs => ?_⟩⟩
    · have h2 : ¬ allS (l.take i) f.1 = [] := fun e => by rw [e] at h1; simp at h1
      rw [if_neg h2] at ca
      rw [ca, List.append_nil] at cs
      exact ⟨by omega, (i + 1, es'), ⟨by simp, rfl, by simp only; rw [cs], by simp only; rw [cs]⟩, ⟨by simp only; omega, nes⟩, by simp only; omega⟩
    · have h2 : allS (l.take i) f.1 = [] := List.length_eq_zero_iff.1 (by omega)
      rw [if_pos h2, canOf, if_pos hs] at ca
      refine VL_inv (X := Nat) (fun k => ⟨[(0, enc_flds l), (3, .ptr 64 0 0 1), (4, .mp 208), (5, .clo 26 0 [.ptr 64 0 0 1]), (7, .ptr 128 0 0 1), (14, enc_flds l), (15, .int .i64 l.length), (16, .int .i64 i), (38, enc_strs (allS l f.1)), (39, .int .i64 (allS l f.1).length), (40, .int .i64 k)],
        [(208, .map es'), (128, .cells 2 false (.agg [.str [], .str []]) [.agg [.str f.1, .str f.2]]), (64, .cells 1 false .nils [.ref 320 0 (canT l i ++ ((allS l f.1).take k).map fun v => (nameS f.1, trimS v)).length (canT l i ++ ((allS l f.1).take k).map fun v => (nameS f.1, trimS v)).length]), (320, .cells 2 false (.agg [.str [], .str []]) ((canT l i ++ ((allS l f.1).take k).map fun v => (nameS f.1, trimS v)).map enc_fld))]⟩)
        (fun k => k ≤ (allS l f.1).length) (fun k => (allS l f.1).length - k) 0 ?_ ?_ ?_
      · simp only [List.take_zero, List.map_nil, List.append_nil, T_specFields, Go.Proofs.Try.Oct.tb_specLower, Go.Proofs.Try.Hdr.tb_specAll, Go.Proofs.Try.Can.tb_specSingle, Go.Proofs.Try.Lists.tb_specJoin, go_sem, seval, pT, tb_put]
        try rfl
      · exact Nat.zero_le _
      intro k hk
      simp (config := {maxSteps := 2000000}) only [T_specFields, Go.Proofs.Try.Oct.tb_specLower, Go.Proofs.Try.Hdr.tb_specAll, Go.Proofs.Try.Can.tb_specSingle, Go.Proofs.Try.Lists.tb_specJoin, go_sem, seval, pT, tb_put]
      (try simp (config := {maxSteps := 2000000}) only [gimp, impB, isT, go_sem, seval])
      simp only [mrf]
      have ll : (canT l i ++ ((allS l f.1).take k).map fun v => (nameS f.1, trimS v)).length ≤ 2000 := by
        rw [List.length_append, List.length_map, List.length_take]; omega
      refine ⟨fun hlt2 => ?_, fun hge2 => ?_⟩
      · have tk := take_succ_getD (s := allS l f.1) (x := k) [] (by omega)
        have vm : (allS l f.1).getD k [] ∈ allS l f.1 := List.mem_of_getElem? (getD_of_lt (s := allS l f.1) (d := []) (by omega))
        have vl := av _ vm
        have e : canT l i ++ List.map (fun v => (nameS f.1, trimS v)) ((allS l f.1).take (k + 1)) = (canT l i ++ List.map (fun v => (nameS f.1, trimS v)) ((allS l f.1).take k)) ++ [(nameS f.1, trimS ((allS l f.1).getD k []))] := by
          rw [tk, List.map_append, List.append_assoc]; rfl
        exact ⟨by omega, ⟨by omega, by omega, by omega⟩, by omega, k + 1, ⟨by omega, by rw [e, List.length_append (bs := [_])]; rfl, by rw [e]⟩, by omega, by omega⟩
      · have e : k = (allS l f.1).length := by omega
        subst e
        rw [List.take_length, ← ca, ← cs]
        exact ⟨by omega, (i + 1, es'), ⟨by simp, rfl, rfl, rfl⟩, ⟨by simp only; omega, nes⟩, by simp only; omega⟩
    · have h2 : allS (l.take i) f.1 = [] := List.length_eq_zero_iff.1 (by omega)
      rw [if_pos h2, canOf, if_neg (by rw [hs]; simp), ← join_eq] at ca
      rw [ca] at cs
      refine ⟨⟨by omega, by omega⟩, ⟨by omega, by omega, by omega⟩, by omega, (i + 1, es'), ⟨by simp, rfl, ?_, ?_⟩, ⟨by simp only; omega, nes⟩, by simp only; omega⟩
      · simp only; rw [cs, List.length_append]; rfl
      · simp only; rw [cs]
  · have e : i = l.length := by omega
    subst e
    rw [List.take_length]; rfl
def tb_specFields : List Blk → List AV → Option (List Blk × AV × Prop)
  | [], [a0] => some ([], enc_flds (canS (dec_flds a0)), (fewF (dec_flds a0) = true) ∧ argOK a0 (enc_flds (dec_flds a0)))
  | _, _ => none
theorem tb_specFields_ok : ∀ E args E' res p, tb_specFields E args = some (E', res, p) → p → SpecE Try.prog 18 E args E' res := by
  intro E args E' res p h hp
  unfold tb_specFields at h
  split at h
  · simp only [Option.some.injEq, Prod.mk.injEq] at h
    obtain ⟨rfl, rfl, rfl⟩ := h
    exact SpecE.args (specFields _ hp.1) (.cons hp.2 .nil)
  · cases h
def T_specVersion : Tbl := fun g E args => nilT g E args
theorem T_specVersion_ok : TblOK Try.prog T_specVersion := nilT_ok
set_option maxRecDepth 100000 in
set_option maxHeartbeats 4000000 in
theorem specVersion (n : Int) : SpecE Try.prog 24 [] [.int .i64 n] [] (.str (verS n)) := by
  refine specF0 (C := T_specVersion) (wr := false) (D := fun _ => []) (U := fun _ => none) (res := [.str (verS n)]) Try.Ty.mixed T_specVersion_ok Try.func24 (nA := 1) (by decide +kernel) rfl (fun _ => rfl) ?_
  simp only [Try.f24, bodyOf, rlOf]
  rw [W_V]
  simp (config := {maxSteps := 2000000}) only [T_specVersion, go_sem, seval]
  (try simp (config := {maxSteps := 2000000}) only [gimp, impB, isT, go_sem, seval])
  exact ⟨fun h => by rw [verS, if_pos h], fun h => by rw [verS, if_neg (by omega)]⟩
def tb_specVersion : List Blk → List AV → Option (List Blk × AV × Prop)
  | [], [.int .i64 n] => some ([], .str (verS n), True)
  | _, _ => none
theorem tb_specVersion_ok : ∀ E args E' res p, tb_specVersion E args = some (E', res, p) → p → SpecE Try.prog 24 E args E' res := by
  intro E args E' res p h hp
  unfold tb_specVersion at h
  split at h
  · simp only [Option.some.injEq, Prod.mk.injEq] at h
    obtain ⟨rfl, rfl, rfl⟩ := h
    exact (specVersion _)
  · cases h
def T_specLine : Tbl := fun g E args => (addT (addT nilT 24 Go.Proofs.Try.Can.tb_specVersion) 25 Go.Proofs.Try.Dig.tb_specPad) g E args
theorem T_specLine_ok : TblOK Try.prog T_specLine := (addT_ok (addT_ok nilT_ok (by decide +kernel) Go.Proofs.Try.Can.tb_specVersion_ok) (by decide +kernel) Go.Proofs.Try.Dig.tb_specPad_ok)
set_option maxRecDepth 100000 in
set_option maxHeartbeats 4000000 in
theorem specLine (m t : List UInt8) (n k : Int) (r : List UInt8) (l : List Fld) (hm : m.length ≤ 1000000) (ht : t.length ≤ 1000000) (hr : r.length ≤ 1000000) (hk : inR .i64 k) : SpecE Try.prog 17 [] [.agg [.str m, .str t, .int .i64 n, .int .i64 k, .str r, enc_flds l]] [] (.str (lineS m t n k r)) := by
  refine specF0 (C := T_specLine) (wr := false) (D := fun _ => []) (U := fun _ => none) (res := [.str (lineS m t n k r)]) Try.Ty.mixed T_specLine_ok Try.func17 (nA := 1) (by decide +kernel) rfl (fun _ => rfl) ?_
  simp only [Try.f17, bodyOf, rlOf]
  rw [W_V]
  simp (config := {maxSteps := 2000000}) only [T_specLine, Go.Proofs.Try.Can.tb_specVersion, Go.Proofs.Try.Dig.tb_specPad, go_sem, seval]
  (try simp (config := {maxSteps := 2000000}) only [gimp, impB, isT, go_sem, seval])
  have v := verS_len n
  have q := padS_len3 k
  simp only [inR] at hk
  refine ⟨fun h => ?_, fun h => ?_⟩
  · simp only [List.length_append, List.length_cons, List.length_nil]
    exact ⟨by omega, by omega, by omega, by omega, by rw [lineS, if_neg h]⟩
  · simp only [List.length_append, List.length_cons, List.length_nil]
    exact ⟨by omega, hk, by omega, by omega, by omega, by rw [lineS, if_pos h]⟩
def tb_specLine : List Blk → List AV → Option (List Blk × AV × Prop)
  | [], [.agg [.str m, .str t, .int .i64 n, .int .i64 k, .str r, .list 2 fl]] => some ([], .str (lineS m t n k r), (fl.map dec_fld).map enc_fld = fl ∧ m.length ≤ 1000000 ∧ t.length ≤ 1000000 ∧ r.length ≤ 1000000 ∧ inR .i64 k)
  | _, _ => none
theorem tb_specLine_ok : ∀ E args E' res q, tb_specLine E args = some (E', res, q) → q → SpecE Try.prog 17 E args E' res := by
  intro E args E' res q h hq
  unfold tb_specLine at h
  split at h
  · simp only [Option.some.injEq, Prod.mk.injEq] at h
    obtain ⟨rfl, rfl, rfl⟩ := h
    rename_i m t n k r fl
    obtain ⟨h1, h2, h3, h4, h5⟩ := hq
    have := specLine m t n k r (List.map dec_fld fl) h2 h3 h4 h5
    rw [enc_flds, h1] at this
    exact this
  · cases h
def T_specHeadLines : Tbl := fun g E args => (addT (addT (addT nilT 17 Go.Proofs.Try.Can.tb_specLine) 18 Go.Proofs.Try.Can.tb_specFields) 19 Go.Proofs.Try.Fld.tb_specLine) g E args
theorem T_specHeadLines_ok : TblOK Try.prog T_specHeadLines := (addT_ok (addT_ok (addT_ok nilT_ok (by decide +kernel) Go.Proofs.Try.Can.tb_specLine_ok) (by decide +kernel) Go.Proofs.Try.Can.tb_specFields_ok) (by decide +kernel) Go.Proofs.Try.Fld.tb_specLine_ok)
set_option maxRecDepth 100000 in
set_option maxHeartbeats 4000000 in
theorem specHeadLines (m t : List UInt8) (n k : Int) (r : List UInt8) (l : List Fld) (hm : m.length ≤ 1000000) (ht : t.length ≤ 1000000) (hr : r.length ≤ 1000000) (hk : inR .i64 k) (hl : fewF l = true) : SpecE Try.prog 12 [] [.agg [.str m, .str t, .int .i64 n, .int .i64 k, .str r, enc_flds l]] [] (enc_strs (headL m t n k r l)) := by
  refine specF0 (C := T_specHeadLines) (wr := false) (D := fun _ => []) (U := fun _ => none) (res := [enc_strs (headL m t n k r l)]) Try.Ty.mixed T_specHeadLines_ok Try.func12 (nA := 1) (by decide +kernel) rfl (fun _ => rfl) ?_
  simp only [Try.f12, bodyOf, rlOf]
  rw [W_V]
  simp (config := {maxSteps := 2000000}) only [T_specHeadLines, Go.Proofs.Try.Can.tb_specLine, Go.Proofs.Try.Can.tb_specFields, Go.Proofs.Try.Fld.tb_specLine, go_sem, seval]
  (try simp (config := {maxSteps := 2000000}) only [gimp, impB, isT, go_sem, seval])
  have hm2 : (1000000 : Nat) ≤ maxLen := by decide
  have cl := canT_len l l.length
  have fl := (fewF_len hl).1
  have c2 : l.length * (l.length + 1) ≤ 40 * 41 := Nat.mul_le_mul fl (by omega)
  have cl2 : (canS l).length ≤ 1640 := Nat.le_trans cl c2
  refine ⟨⟨hm, ht, hr, hk⟩, hl, ?_⟩
  refine VL_inv (X := Nat) (fun j => ⟨[(3, .ref 144 0 (1 + j) (1 + j)), (11, enc_flds (canS l)), (12, .int .i64 (canS l).length), (13, .int .i64 j)], [(144, .cells 1 false (.str []) ((lineS m t n k r :: ((canS l).take j).map fldL).map .str))]⟩) (fun j => j ≤ (canS l).length) (fun j => (canS l).length - j) 0 ?_ ?_ ?_
  · simp only [List.take_zero, List.map_nil, T_specHeadLines, Go.Proofs.Try.Can.tb_specLine, Go.Proofs.Try.Can.tb_specFields, Go.Proofs.Try.Fld.tb_specLine, go_sem, seval]
    try rfl
  · exact Nat.zero_le _
  intro j hj
  simp (config := {maxSteps := 2000000}) only [T_specHeadLines, Go.Proofs.Try.Can.tb_specLine, Go.Proofs.Try.Can.tb_specFields, Go.Proofs.Try.Fld.tb_specLine, go_sem, seval]
  (try simp (config := {maxSteps := 2000000}) only [gimp, impB, isT, go_sem, seval])
  have sn : ∀ (o : List (List UInt8)) t, o.map AV.str ++ [AV.str t] = (o ++ [t]).map AV.str := fun o t => by rw [List.map_append]; rfl
  have hl1 : (lineS m t n k r :: ((canS l).take j).map fldL).length = 1 + j := by rw [List.length_cons, List.length_map, List.length_take]; omega
  refine ⟨fun hlt => ?_, fun hge => ?_⟩
  · have mem : (canS l).getD j ([], []) ∈ canS l := List.mem_of_getElem? (getD_of_lt (s := canS l) (d := ([], [])) (by omega))
    obtain ⟨b1, b2⟩ := canS_mem hl mem
    have tl : ((canS l).take j).length = j := by rw [List.length_take]; omega
    refine ⟨by omega, ⟨by omega, by omega⟩, ⟨by omega, by omega, by omega⟩, by omega, j + 1, ⟨⟨by omega, by omega⟩, ?_⟩, by omega, by omega⟩
    rw [take_succ_getD ([], []) (show j < (canS l).length by omega), List.map_append, List.map_append]
    rfl
  · have e : j = (canS l).length := by omega
    subst e
    rw [List.take_length]
    refine ⟨?_, by omega⟩
    rw [headL, List.map_cons, List.take_of_length_le (by simp; omega)]
def tb_specHeadLines : List Blk → List AV → Option (List Blk × AV × Prop)
  | [], [.agg [.str m, .str t, .int .i64 n, .int .i64 k, .str r, .list 2 fl]] => some ([], enc_strs (headL m t n k r (fl.map dec_fld)), (fl.map dec_fld).map enc_fld = fl ∧ m.length ≤ 1000000 ∧ t.length ≤ 1000000 ∧ r.length ≤ 1000000 ∧ inR .i64 k ∧ fewF (fl.map dec_fld) = true)
  | _, _ => none
theorem tb_specHeadLines_ok : ∀ E args E' res q, tb_specHeadLines E args = some (E', res, q) → q → SpecE Try.prog 12 E args E' res := by
  intro E args E' res q h hq
  unfold tb_specHeadLines at h
  split at h
  · simp only [Option.some.injEq, Prod.mk.injEq] at h
    obtain ⟨rfl, rfl, rfl⟩ := h
    rename_i m t n k r fl
    obtain ⟨h1, h2, h3, h4, h5, h6⟩ := hq
    have := specHeadLines m t n k r (List.map dec_fld fl) h2 h3 h4 h5 h6
    rw [show enc_flds (List.map dec_fld fl) = .list 2 fl by rw [enc_flds, h1]] at this
    exact this
  · cases h
end Go.Proofs.Try.Can
end
section
set_option linter.unusedVariables false
set_option linter.unusedSimpArgs false
namespace Go.Mdl
open Go Go.Abs
theorem fold_lit {n s low : List UInt8} (h : lowerS n = low) : foldS n s = decide (lowerS s = low) := by
  rw [foldS, h, Bool.eq_iff_iff, decide_eq_true_eq, decide_eq_true_eq]; exact eq_comm
theorem low_etag : lowerS nEtag = [101, 116, 97, 103] := by decide
theorem low_te : lowerS nTe = [116, 101] := by decide
theorem low_www : lowerS nWww = [119, 119, 119, 45, 97, 117, 116, 104, 101, 110, 116, 105, 99, 97, 116, 101] := by decide
theorem low_dnt : lowerS nDnt = [100, 110, 116] := by decide
theorem low_set : lowerS nSet = [115, 101, 116, 45, 99, 111, 111, 107, 105, 101] := by decide
theorem low_proxy : lowerS nProxy = [112, 114, 111, 120, 121, 45, 97, 117, 116, 104, 101, 110, 116, 105, 99, 97, 116, 101] := by decide
theorem nameS_lit (s : List UInt8) : nameS s = if lowerS s = [101, 116, 97, 103] then nEtag else if lowerS s = [116, 101] then nTe else if lowerS s = [119, 119, 119, 45, 97, 117, 116, 104, 101, 110, 116, 105, 99, 97, 116, 101] then nWww else if lowerS s = [100, 110, 116] then nDnt else capGo true (lowerS s) := by
  simp only [nameS, fold_lit low_etag, fold_lit low_te, fold_lit low_www, fold_lit low_dnt, decide_eq_true_eq]
theorem singleS_lit (s : List UInt8) : singleS s = (decide (lowerS s = [115, 101, 116, 45, 99, 111, 111, 107, 105, 101]) || (decide (lowerS s = [119, 119, 119, 45, 97, 117, 116, 104, 101, 110, 116, 105, 99, 97, 116, 101]) || decide (lowerS s = [112, 114, 111, 120, 121, 45, 97, 117, 116, 104, 101, 110, 116, 105, 99, 97, 116, 101]))) := by
  simp only [singleS, singles, List.any_cons, List.any_nil, Bool.or_false, fold_lit low_set, fold_lit low_www, fold_lit low_proxy]
end Go.Mdl
namespace Go.Proofs.Try.CanR
open Go Go.Abs Go.Proofs Go.Mdl
def T_specName : Tbl := fun g E args => (addT nilT 53 Go.Proofs.Try.Oct.tb_specLowerR) g E args
theorem T_specName_ok : TblOK Try.prog T_specName := (addT_ok nilT_ok (by decide +kernel) Go.Proofs.Try.Oct.tb_specLowerR_ok)
set_option maxRecDepth 100000 in
set_option maxHeartbeats 4000000 in
theorem specName (s : List UInt8) (hs : s.length ≤ 1000000) : SpecE Try.prog 38 [] [.str s] [] (.str (nameS s)) := by
  refine specF0 (C := T_specName) (wr := false) (D := fun _ => []) (U := fun _ => none) (res := [.str (nameS s)]) Try.Ty.mixed T_specName_ok Try.func38 (nA := 1) (by decide +kernel) rfl (fun _ => rfl) ?_
  simp only [Try.f38, bodyOf, rlOf]
  rw [W_V]
  simp (config := {maxSteps := 2000000}) only [T_specName, Go.Proofs.Try.Oct.tb_specLowerR, go_sem, seval]
  (try simp (config := {maxSteps := 2000000}) only [gimp, impB, isT, go_sem, seval])
  rw [nameS_lit]
  have hl : (lowerS s).length = s.length := lowerS_len s
  generalize lowerS s = low at *
  refine ⟨hs, fun h => by rw [if_pos h]; rfl, fun h0 => ⟨fun h => by rw [if_neg h0, if_pos h]; rfl, fun h1 => ⟨fun h => by rw [if_neg h0, if_neg h1, if_pos h]; rfl, fun h2 => ⟨fun h => by rw [if_neg h0, if_neg h1, if_neg h2, if_pos h]; rfl, fun h3 => ?_⟩⟩⟩⟩
  rw [if_neg h0, if_neg h1, if_neg h2, if_neg h3]
  clear h0 h1 h2 h3
  refine VL_inv (X := Nat) (fun i => ⟨[(3, .str low), (4, .ref 288 0 i i), (5, .int .i64 i)], [(288, .cells 1 false (.int .u8 0) ((capGo true (low.take i)).map byteAV))]⟩) (fun i => i ≤ low.length) (fun i => low.length - i) 0 ?_ ?_ ?_
  · simp only [List.take_zero, capGo, T_specName, Go.Proofs.Try.Oct.tb_specLowerR, go_sem, seval]
    try rfl
  · exact Nat.zero_le _
  intro i hi
  simp (config := {maxSteps := 2000000}) only [T_specName, Go.Proofs.Try.Oct.tb_specLowerR, go_sem, seval]
  (try simp (config := {maxSteps := 2000000}) only [gimp, impB, isT, go_sem, seval])
  have hcl : (capGo true (low.take i)).length = i := by rw [capGo_len, List.length_take]; omega
  rw [hcl]
  refine ⟨fun hlt => ?_, fun hge => ?_⟩
  · have hst := capSt_at (low := low) (x := i) hi
    have hct := (cap_take (low := low) (x := i) (by omega)).1
    have c8 := (low.getD i 0).toNat_lt
    have ap : ∀ v : Int, v = ((capB (capSt true (low.take i)) (low.getD i 0)).toNat : Nat) → List.map byteAV (capGo true (low.take i)) ++ [AV.int .u8 v] = List.map byteAV (capGo true (low.take (i + 1))) := fun v hv => by
      rw [hct, List.map_append, hv]; rfl
    refine ⟨by omega, ⟨fun _ _ _ => by omega, fun _ _ _ => by omega⟩, ⟨fun _ _ _ => by omega, fun _ _ _ => by omega⟩, fun h1 h2 h3 => ?_, fun h => ?_⟩
    · have hb : capSt true (low.take i) = true := by
        rw [hst, Bool.or_eq_true, decide_eq_true_eq, decide_eq_true_eq]
        rcases h3 with h3 | h3
        · exact .inl (by omega)
        · exact .inr h3
      have hv := cap_val _ (low.getD i 0) hb
      rw [if_pos ⟨by omega, by omega⟩] at hv
      exact ⟨⟨by omega, by omega⟩, ⟨rfl, by omega, by omega⟩, by omega, i + 1, ⟨⟨rfl, by omega⟩, ap _ hv⟩, by omega, by omega⟩
    · refine ⟨⟨rfl, by omega, by omega⟩, by omega, i + 1, ⟨⟨rfl, by omega⟩, ap _ ?_⟩, by omega, by omega⟩
      rw [capB, if_neg]
      rintro ⟨g1, g2, g3⟩
      rw [hst, Bool.or_eq_true, decide_eq_true_eq, decide_eq_true_eq] at g1
      have e1 : decide (97 ≤ ((low.getD i 0).toNat : Int)) = true := decide_eq_true (by omega)
      have e2 : decide (((low.getD i 0).toNat : Int) ≤ 122) = true := decide_eq_true (by omega)
      rw [e1, e2] at h
      rcases g1 with g1 | g1
      · have e3 : decide ((i : Int) = 0) = true := decide_eq_true (by omega)
        rw [e3] at h; cases h
      · rw [decide_eq_true g1] at h; simp at h
  · have e : i = low.length := by omega
    subst e
    rw [List.take_length]
    exact ⟨rfl, List.take_of_length_le (by rw [capGo_len]; omega)⟩
def tb_specName : List Blk → List AV → Option (List Blk × AV × Prop)
  | [], [.str s] => some ([], .str (nameS s), (s.length ≤ 1000000))
  | _, _ => none
theorem tb_specName_ok : ∀ E args E' res p, tb_specName E args = some (E', res, p) → p → SpecE Try.prog 38 E args E' res := by
  intro E args E' res p h hp
  unfold tb_specName at h
  split at h
  · simp only [Option.some.injEq, Prod.mk.injEq] at h
    obtain ⟨rfl, rfl, rfl⟩ := h
    exact (specName _ hp)
  · cases h
def T_specSingle : Tbl := fun g E args => (addT nilT 53 Go.Proofs.Try.Oct.tb_specLowerR) g E args
theorem T_specSingle_ok : TblOK Try.prog T_specSingle := (addT_ok nilT_ok (by decide +kernel) Go.Proofs.Try.Oct.tb_specLowerR_ok)
set_option maxRecDepth 100000 in
set_option maxHeartbeats 4000000 in
theorem specSingle (n : List UInt8) (hs : n.length ≤ 1000000) : SpecE Try.prog 36 [] [.str n] [] (.bool (singleS n)) := by
  refine specF0 (C := T_specSingle) (wr := false) (D := fun _ => []) (U := fun _ => none) (res := [.bool (singleS n)]) Try.Ty.mixed T_specSingle_ok Try.func36 (nA := 1) (by decide +kernel) rfl (fun _ => rfl) ?_
  simp only [Try.f36, bodyOf, rlOf]
  rw [W_V]
  simp (config := {maxSteps := 2000000}) only [T_specSingle, Go.Proofs.Try.Oct.tb_specLowerR, go_sem, seval]
  (try simp (config := {maxSteps := 2000000}) only [gimp, impB, isT, go_sem, seval])
  rw [singleS_lit]
  exact ⟨hs, Bool.or_assoc ..⟩
def tb_specSingle : List Blk → List AV → Option (List Blk × AV × Prop)
  | [], [.str n] => some ([], .bool (singleS n), (n.length ≤ 1000000))
  | _, _ => none
theorem tb_specSingle_ok : ∀ E args E' res p, tb_specSingle E args = some (E', res, p) → p → SpecE Try.prog 36 E args E' res := by
  intro E args E' res p h hp
  unfold tb_specSingle at h
  split at h
  · simp only [Option.some.injEq, Prod.mk.injEq] at h
    obtain ⟨rfl, rfl, rfl⟩ := h
    exact (specSingle _ hp)
  · cases h
def T_specFields : Tbl := fun g E args => (addT (addT (addT (addT (addT nilT 35 Go.Proofs.Try.HdrR.tb_specAll) 36 Go.Proofs.Try.CanR.tb_specSingle) 38 Go.Proofs.Try.CanR.tb_specName) 37 Go.Proofs.Try.Lists.tb_specJoinR) 39 Go.Proofs.Try.Oct.tb_specTrimR) g E args
theorem T_specFields_ok : TblOK Try.prog T_specFields := (addT_ok (addT_ok (addT_ok (addT_ok (addT_ok nilT_ok (by decide +kernel) Go.Proofs.Try.HdrR.tb_specAll_ok) (by decide +kernel) Go.Proofs.Try.CanR.tb_specSingle_ok) (by decide +kernel) Go.Proofs.Try.CanR.tb_specName_ok) (by decide +kernel) Go.Proofs.Try.Lists.tb_specJoinR_ok) (by decide +kernel) Go.Proofs.Try.Oct.tb_specTrimR_ok)
set_option maxRecDepth 100000 in
set_option maxHeartbeats 4000000 in
theorem specFields (l : List Fld) (hl : fewF l = true) : SpecE Try.prog 22 [] [enc_flds l] [] (enc_flds (canS l)) := by
  refine specF0 (C := T_specFields) (wr := false) (D := fun i => if i = 12 then [13, 14] else []) (U := fun _ => none) (res := [enc_flds (canS l)]) Try.Ty.mixed T_specFields_ok Try.func22 (nA := 1) (by decide +kernel) rfl (fun _ => rfl) ?_
  simp only [Try.f22, bodyOf, rlOf]
  rw [W_V]
  simp (config := {maxSteps := 2000000}) only [T_specFields, Go.Proofs.Try.HdrR.tb_specAll, Go.Proofs.Try.CanR.tb_specSingle, Go.Proofs.Try.CanR.tb_specName, Go.Proofs.Try.Lists.tb_specJoinR, Go.Proofs.Try.Oct.tb_specTrimR, go_sem, seval]
  (try simp (config := {maxSteps := 2000000}) only [gimp, impB, isT, go_sem, seval])
  obtain ⟨fl, fs⟩ := fewF_len hl
  refine VL_inv (X := Nat) (fun i => ⟨[(0, enc_flds l), (3, .ref 128 0 (canT l i).length (canT l i).length), (4, .int .i64 i)], [(128, .cells 2 false (.agg [.str [], .str []]) ((canT l i).map enc_fld))]⟩) (fun i => i ≤ l.length) (fun i => l.length - i) 0 ?_ ?_ ?_
  · simp only [canT_zero, T_specFields, Go.Proofs.Try.HdrR.tb_specAll, Go.Proofs.Try.CanR.tb_specSingle, Go.Proofs.Try.CanR.tb_specName, Go.Proofs.Try.Lists.tb_specJoinR, Go.Proofs.Try.Oct.tb_specTrimR, go_sem, seval]
    try rfl
  · exact Nat.zero_le _
  intro i i1
  simp (config := {maxSteps := 2000000}) only [T_specFields, Go.Proofs.Try.HdrR.tb_specAll, Go.Proofs.Try.CanR.tb_specSingle, Go.Proofs.Try.CanR.tb_specName, Go.Proofs.Try.Lists.tb_specJoinR, Go.Proofs.Try.Oct.tb_specTrimR, go_sem, seval]
  (try simp (config := {maxSteps := 2000000}) only [gimp, impB, isT, go_sem, seval])
  have ct := canT_len l i
  have ct2 : i * (l.length + 1) ≤ 40 * 41 := Nat.mul_le_mul (by omega) (by omega)
  refine ⟨fun hlt => ?_, fun hge => ?_⟩
  · have hi : i < l.length := by omega
    have mem : l.getD i ([], []) ∈ l := List.mem_of_getElem? (getD_of_lt (s := l) (d := ([], [])) hi)
    obtain ⟨fn, fv⟩ := fs _ mem
    have cs := canT_succ l i
    have ca : canAt l i = if allS (l.take i) (l.getD i ([], [])).1 = [] then canOf l (l.getD i ([], [])) else [] := rfl
    have al := allS_len l (l.getD i ([], [])).1
    have jl := comb_len (l.getD i ([], [])).1 hl
    rw [combS] at jl
    have av : ∀ v ∈ allS l (l.getD i ([], [])).1, v.length ≤ 300 := fun v hv => by
      obtain ⟨g, hg2, rfl, _⟩ := allS_mem hv
      exact (fs g hg2).2
    generalize hf : l.getD i ([], []) = f at mem fn fv ca al jl av ⊢
    refine ⟨by omega, by omega, ⟨by rw [List.length_take]; omega, by omega, fun g hg => by have := (fs g (List.mem_of_mem_take hg)).1; omega⟩, fun h1 => ?_, fun h1 => ⟨by omega, ⟨by omega, by omega, fun g hg => by have := (fs g hg).1; omega⟩, by omega, by omega, fun hs => ⟨⟨by omega, fun x hx => by have := av x hx; omega⟩, ?_⟩, fun hs => ?_⟩⟩
    · have h2 : ¬ allS (l.take i) f.1 = [] := fun e => by rw [e] at h1; simp at h1
      rw [if_neg h2] at ca
      rw [ca, List.append_nil] at cs
      exact ⟨by omega, i + 1, ⟨⟨by rw [cs], by omega⟩, by rw [cs]⟩, by omega, by omega⟩
    · have h2 : allS (l.take i) f.1 = [] := List.length_eq_zero_iff.1 (by omega)
      rw [if_pos h2, canOf, if_neg (by rw [hs]; simp)] at ca
      have ca2 : canAt l i = [joinS (allS l f.1)].map fun v => (nameS f.1, trimS v) := ca
      have av2 : ∀ v ∈ [joinS (allS l f.1)], v.length ≤ 12080 := fun v hv => by simp only [List.mem_singleton] at hv; subst hv; exact jl
      have al2 : [joinS (allS l f.1)].length ≤ 40 := by simp
      clear ca jl av al
      refine VL_inv (X := Nat) (fun k => ⟨[(0, enc_flds l), (3, .ref 128 0 (canT l i ++ ([joinS (allS l f.1)].take k).map fun v => (nameS f.1, trimS v)).length (canT l i ++ ([joinS (allS l f.1)].take k).map fun v => (nameS f.1, trimS v)).length), (4, .int .i64 i), (5, enc_strs [joinS (allS l f.1)]), (6, .int .i64 k)],
        [(128, .cells 2 false (.agg [.str [], .str []]) ((canT l i ++ ([joinS (allS l f.1)].take k).map fun v => (nameS f.1, trimS v)).map enc_fld))]⟩) (fun k => k ≤ [joinS (allS l f.1)].length) (fun k => [joinS (allS l f.1)].length - k) 0 ?_ ?_ ?_
      · simp only [List.take_zero, List.map_nil, List.append_nil, T_specFields, Go.Proofs.Try.HdrR.tb_specAll, Go.Proofs.Try.CanR.tb_specSingle, Go.Proofs.Try.CanR.tb_specName, Go.Proofs.Try.Lists.tb_specJoinR, Go.Proofs.Try.Oct.tb_specTrimR, go_sem, seval]
        try simp
      · exact Nat.zero_le _
      generalize [joinS (allS l f.1)] = AL at *
      intro k hk
      simp (config := {maxSteps := 2000000}) only [T_specFields, Go.Proofs.Try.HdrR.tb_specAll, Go.Proofs.Try.CanR.tb_specSingle, Go.Proofs.Try.CanR.tb_specName, Go.Proofs.Try.Lists.tb_specJoinR, Go.Proofs.Try.Oct.tb_specTrimR, go_sem, seval]
      (try simp (config := {maxSteps := 2000000}) only [gimp, impB, isT, go_sem, seval])
      have ll : (canT l i ++ (AL.take k).map fun v => (nameS f.1, trimS v)).length ≤ 2000 := by
        rw [List.length_append, List.length_map, List.length_take]; omega
      refine ⟨fun hlt2 => ?_, fun hge2 => ?_⟩
      · have tk := take_succ_getD (s := AL) (x := k) [] (by omega)
        have vm : AL.getD k [] ∈ AL := List.mem_of_getElem? (getD_of_lt (s := AL) (d := []) (by omega))
        have vl := av2 _ vm
        have hm : (1000000 : Nat) ≤ maxLen := by decide
        have e : canT l i ++ List.map (fun v => (nameS f.1, trimS v)) (AL.take (k + 1)) = (canT l i ++ List.map (fun v => (nameS f.1, trimS v)) (AL.take k)) ++ [(nameS f.1, trimS (AL.getD k []))] := by
          rw [tk, List.map_append, List.append_assoc]; rfl
        have sn : ∀ (m : List Fld) (a b : List UInt8), m.map enc_fld ++ [AV.agg [AV.str a, AV.str b]] = (m ++ [(a, b)]).map enc_fld := fun m a b => by rw [List.map_append]; rfl
        simp only [sn]
        rw [hf]
        exact ⟨by omega, by omega, by omega, by omega, ⟨by omega, by omega⟩, by omega, k + 1, ⟨⟨by rw [e, List.length_append (bs := [_])]; rfl, by omega⟩, by rw [e]⟩, by omega, by omega⟩
      · have e : k = AL.length := by omega
        subst e
        rw [List.take_length, ← ca2, ← cs]
        exact ⟨by omega, i + 1, ⟨⟨rfl, by omega⟩, rfl⟩, by omega, by omega⟩
    · have h2 : allS (l.take i) f.1 = [] := List.length_eq_zero_iff.1 (by omega)
      rw [if_pos h2, canOf, if_pos hs] at ca
      have ca2 : canAt l i = (allS l f.1).map fun v => (nameS f.1, trimS v) := ca
      have av2 : ∀ v ∈ allS l f.1, v.length ≤ 12080 := fun v hv => by have := av v hv; omega
      have al2 : (allS l f.1).length ≤ 40 := by omega
      clear ca jl av
      refine VL_inv (X := Nat) (fun k => ⟨[(0, enc_flds l), (3, .ref 128 0 (canT l i ++ ((allS l f.1).take k).map fun v => (nameS f.1, trimS v)).length (canT l i ++ ((allS l f.1).take k).map fun v => (nameS f.1, trimS v)).length), (4, .int .i64 i), (5, enc_strs (allS l f.1)), (6, .int .i64 k)],
        [(128, .cells 2 false (.agg [.str [], .str []]) ((canT l i ++ ((allS l f.1).take k).map fun v => (nameS f.1, trimS v)).map enc_fld))]⟩) (fun k => k ≤ (allS l f.1).length) (fun k => (allS l f.1).length - k) 0 ?_ ?_ ?_
      · simp only [List.take_zero, List.map_nil, List.append_nil, T_specFields, Go.Proofs.Try.HdrR.tb_specAll, Go.Proofs.Try.CanR.tb_specSingle, Go.Proofs.Try.CanR.tb_specName, Go.Proofs.Try.Lists.tb_specJoinR, Go.Proofs.Try.Oct.tb_specTrimR, go_sem, seval]
        try simp
      · exact Nat.zero_le _
      generalize allS l f.1 = AL at *
      intro k hk
      simp (config := {maxSteps := 2000000}) only [T_specFields, Go.Proofs.Try.HdrR.tb_specAll, Go.Proofs.Try.CanR.tb_specSingle, Go.Proofs.Try.CanR.tb_specName, Go.Proofs.Try.Lists.tb_specJoinR, Go.Proofs.Try.Oct.tb_specTrimR, go_sem, seval]
      (try simp (config := {maxSteps := 2000000}) only [gimp, impB, isT, go_sem, seval])
      have ll : (canT l i ++ (AL.take k).map fun v => (nameS f.1, trimS v)).length ≤ 2000 := by
        rw [List.length_append, List.length_map, List.length_take]; omega
      refine ⟨fun hlt2 => ?_, fun hge2 => ?_⟩
      · have tk := take_succ_getD (s := AL) (x := k) [] (by omega)
        have vm : AL.getD k [] ∈ AL := List.mem_of_getElem? (getD_of_lt (s := AL) (d := []) (by omega))
        have vl := av2 _ vm
        have hm : (1000000 : Nat) ≤ maxLen := by decide
        have e : canT l i ++ List.map (fun v => (nameS f.1, trimS v)) (AL.take (k + 1)) = (canT l i ++ List.map (fun v => (nameS f.1, trimS v)) (AL.take k)) ++ [(nameS f.1, trimS (AL.getD k []))] := by
          rw [tk, List.map_append, List.append_assoc]; rfl
        have sn : ∀ (m : List Fld) (a b : List UInt8), m.map enc_fld ++ [AV.agg [AV.str a, AV.str b]] = (m ++ [(a, b)]).map enc_fld := fun m a b => by rw [List.map_append]; rfl
        simp only [sn]
        rw [hf]
        exact ⟨by omega, by omega, by omega, by omega, ⟨by omega, by omega⟩, by omega, k + 1, ⟨⟨by rw [e, List.length_append (bs := [_])]; rfl, by omega⟩, by rw [e]⟩, by omega, by omega⟩
      · have e : k = AL.length := by omega
        subst e
        rw [List.take_length, ← ca2, ← cs]
        exact ⟨by omega, i + 1, ⟨⟨rfl, by omega⟩, rfl⟩, by omega, by omega⟩
  · have e : i = l.length := by omega
    subst e
    rw [List.take_length]; rfl
def tb_specFields : List Blk → List AV → Option (List Blk × AV × Prop)
  | [], [a0] => some ([], enc_flds (canS (dec_flds a0)), (fewF (dec_flds a0) = true) ∧ argOK a0 (enc_flds (dec_flds a0)))
  | _, _ => none
theorem tb_specFields_ok : ∀ E args E' res p, tb_specFields E args = some (E', res, p) → p → SpecE Try.prog 22 E args E' res := by
  intro E args E' res p h hp
  unfold tb_specFields at h
  split at h
  · simp only [Option.some.injEq, Prod.mk.injEq] at h
    obtain ⟨rfl, rfl, rfl⟩ := h
    exact SpecE.args (specFields _ hp.1) (.cons hp.2 .nil)
  · cases h
def T_specVersion : Tbl := fun g E args => nilT g E args
theorem T_specVersion_ok : TblOK Try.prog T_specVersion := nilT_ok
set_option maxRecDepth 100000 in
set_option maxHeartbeats 4000000 in
theorem specVersion (n : Int) : SpecE Try.prog 33 [] [.int .i64 n] [] (.str (verS n)) := by
  refine specF0 (C := T_specVersion) (wr := false) (D := fun _ => []) (U := fun _ => none) (res := [.str (verS n)]) Try.Ty.mixed T_specVersion_ok Try.func33 (nA := 1) (by decide +kernel) rfl (fun _ => rfl) ?_
  simp only [Try.f33, bodyOf, rlOf]
  rw [W_V]
  simp (config := {maxSteps := 2000000}) only [T_specVersion, go_sem, seval]
  (try simp (config := {maxSteps := 2000000}) only [gimp, impB, isT, go_sem, seval])
  exact ⟨fun h => by rw [verS, if_neg (by omega)], fun h => by rw [verS, if_pos h]⟩
def tb_specVersion : List Blk → List AV → Option (List Blk × AV × Prop)
  | [], [.int .i64 n] => some ([], .str (verS n), True)
  | _, _ => none
theorem tb_specVersion_ok : ∀ E args E' res p, tb_specVersion E args = some (E', res, p) → p → SpecE Try.prog 33 E args E' res := by
  intro E args E' res p h hp
  unfold tb_specVersion at h
  split at h
  · simp only [Option.some.injEq, Prod.mk.injEq] at h
    obtain ⟨rfl, rfl, rfl⟩ := h
    exact (specVersion _)
  · cases h
def T_specPad : Tbl := fun g E args => (addT nilT 51 Go.Proofs.Try.Dig.tb_specTextR) g E args
theorem T_specPad_ok : TblOK Try.prog T_specPad := (addT_ok nilT_ok (by decide +kernel) Go.Proofs.Try.Dig.tb_specTextR_ok)
set_option maxRecDepth 100000 in
set_option maxHeartbeats 4000000 in
theorem specPad (n : Int) (hn : inR .i64 n) : SpecE Try.prog 34 [] [.int .i64 n, .int .i64 3] [] (.str (padS n 3)) := by
  refine specF0 (C := T_specPad) (wr := false) (D := fun _ => []) (U := fun _ => none) (res := [.str (padS n 3)]) Try.Ty.mixed T_specPad_ok Try.func34 (nA := 2) (by decide +kernel) rfl (fun _ => rfl) ?_
  simp only [Try.f34, bodyOf, rlOf]
  rw [W_V]
  simp (config := {maxSteps := 2000000}) only [T_specPad, Go.Proofs.Try.Dig.tb_specTextR, go_sem, seval]
  (try simp (config := {maxSteps := 2000000}) only [gimp, impB, isT, go_sem, seval])
  have tl := textI_len n
  refine ⟨hn, ?_⟩
  refine VL_inv (X := Nat) (fun j => ⟨[(0, .int .i64 n), (1, .int .i64 3), (5, .str (List.replicate j 48 ++ textI n))], []⟩) (fun j => j = 0 ∨ 0 ≤ n ∧ j + (textI n).length ≤ 3) (fun j => 3 - j) 0 ?_ ?_ ?_
  · simp only [List.replicate_zero, List.nil_append, T_specPad, Go.Proofs.Try.Dig.tb_specTextR, go_sem, seval]
    try rfl
  · exact .inl rfl
  intro j hj
  simp (config := {maxSteps := 2000000}) only [T_specPad, Go.Proofs.Try.Dig.tb_specTextR, go_sem, seval]
  (try simp (config := {maxSteps := 2000000}) only [gimp, impB, isT, go_sem, seval])
  have rl : (List.replicate j 48 ++ textI n).length = j + (textI n).length := by rw [List.length_append, List.length_replicate]
  rw [rl]
  refine ⟨fun h0 h1 h2 => ⟨by omega, j + 1, by rw [List.replicate_succ]; rfl, .inr ⟨h0, by omega⟩, by omega⟩, fun h => ?_⟩
  unfold padS
  by_cases h0 : n < 0
  · rw [if_pos h0]
    rcases hj with rfl | hj
    · rfl
    · omega
  · rw [if_neg h0]
    have e1 : decide (0 ≤ n) = true := decide_eq_true (by omega)
    rw [e1] at h
    have h3 : ¬ ((j + (textI n).length : Nat) : Int) < 3 := fun h4 => by
      have e2 : decide (((j + (textI n).length : Nat) : Int) < 20) = true := decide_eq_true (by omega)
      rw [e2, decide_eq_true h4] at h; cases h
    congr 2
    omega
def tb_specPad : List Blk → List AV → Option (List Blk × AV × Prop)
  | [], [.int .i64 n, .int .i64 3] => some ([], .str (padS n 3), (inR .i64 n))
  | _, _ => none
theorem tb_specPad_ok : ∀ E args E' res p, tb_specPad E args = some (E', res, p) → p → SpecE Try.prog 34 E args E' res := by
  intro E args E' res p h hp
  unfold tb_specPad at h
  split at h
  · simp only [Option.some.injEq, Prod.mk.injEq] at h
    obtain ⟨rfl, rfl, rfl⟩ := h
    exact (specPad _ hp)
  · cases h
end Go.Proofs.Try.CanR
end
section
set_option linter.unusedVariables false
set_option linter.unusedSimpArgs false
namespace Go.Mdl
open Go Go.Abs
structure Hd where
  m : List UInt8
  t : List UInt8
  n : Int
  k : Int
  r : List UInt8
  l : List Fld
def enc_hd (h : Hd) : AV := .agg [.str h.m, .str h.t, .int .i64 h.n, .int .i64 h.k, .str h.r, .list 2 (h.l.map enc_fld)]
def dec_hd : AV → Hd
  | .agg [.str m, .str t, .int _ n, .int _ k, .str r, .list _ l] => ⟨m, t, n, k, r, l.map dec_fld⟩
  | _ => ⟨[], [], 0, 0, [], []⟩
theorem dec_hd_mk (m t r : List UInt8) (a b : IntKind) (n k : Int) (z : Nat) (l : List AV) : dec_hd (.agg [.str m, .str t, .int a n, .int b k, .str r, .list z l]) = ⟨m, t, n, k, r, l.map dec_fld⟩ := rfl
attribute [go_sem] enc_hd dec_hd_mk
def okHd (h : Hd) : Prop := h.m.length ≤ 100 ∧ h.t.length ≤ 500 ∧ h.r.length ≤ 300 ∧ inR .i64 h.k ∧ fewF h.l = true
def hdL (h : Hd) : List (List UInt8) := headL h.m h.t h.n h.k h.r h.l
def signT (s : Int) : List UInt8 := if s = 0 then [32, 32] else if s = 1 then [45, 32] else [43, 32]
def rwT (r : Rw) : List UInt8 := signT r.1 ++ r.2
def headsS (a b : Hd) : List (List UInt8) := (linesS (hdL a) (hdL b)).map rwT
def shortH (h : Hd) : Bool := fewF h.l && (decide (h.m.length ≤ 100) && (decide (h.t.length ≤ 500) && decide (h.r.length ≤ 300)))
theorem hdL_len {h : Hd} (ho : okHd h) : (hdL h).length ≤ 1641 := by
  have fl := (fewF_len ho.2.2.2.2).1
  have cl : (canS h.l).length ≤ h.l.length * (h.l.length + 1) := canT_len h.l h.l.length
  have c2 : h.l.length * (h.l.length + 1) ≤ 40 * 41 := Nat.mul_le_mul fl (by omega)
  simp only [hdL, headL, List.length_cons, List.length_map]; omega
theorem lines_sign : ∀ (n : Nat) (a b : List (List UInt8)), a.length + b.length ≤ n → ∀ r ∈ linesS a b, (r.1 = 0 ∨ r.1 = 1 ∨ r.1 = 2) ∧ (r.2 ∈ a ∨ r.2 ∈ b)
  | n, [], [], _, r, h => by rw [linesS_nn] at h; simp at h
  | 0, x :: a, b, hn, _, _ => by simp at hn
  | 0, [], y :: b, hn, _, _ => by simp at hn
  | n + 1, x :: a, [], hn, r, h => by
    rw [linesS_cn] at h
    rcases List.mem_cons.1 h with rfl | h
    · exact ⟨.inr (.inl rfl), .inl (by simp)⟩
    · have := lines_sign n a [] (by simp only [List.length_cons, List.length_nil] at hn ⊢; omega) r h
      exact ⟨this.1, by rcases this.2 with g | g; exact .inl (by simp [g]); exact .inr g⟩
  | n + 1, [], y :: b, hn, r, h => by
    rw [linesS_nc] at h
    rcases List.mem_cons.1 h with rfl | h
    · exact ⟨.inr (.inr rfl), .inr (by simp)⟩
    · have := lines_sign n [] b (by simp only [List.length_cons, List.length_nil] at hn ⊢; omega) r h
      exact ⟨this.1, by rcases this.2 with g | g; exact .inl g; exact .inr (by simp [g])⟩
  | n + 1, x :: a, y :: b, hn, r, h => by
    simp only [List.length_cons] at hn
    rw [linesS_cc] at h
    split at h
    · rcases List.mem_cons.1 h with rfl | h
      · exact ⟨.inl rfl, .inl (by simp)⟩
      · have := lines_sign n a b (by omega) r h
        exact ⟨this.1, by rcases this.2 with g | g; exact .inl (by simp [g]); exact .inr (by simp [g])⟩
    · split at h
      · rcases List.mem_cons.1 h with rfl | h
        · exact ⟨.inr (.inl rfl), .inl (by simp)⟩
        · have := lines_sign n a (y :: b) (by simp only [List.length_cons]; omega) r h
          exact ⟨this.1, by rcases this.2 with g | g; exact .inl (by simp [g]); exact .inr g⟩
      · rcases List.mem_cons.1 h with rfl | h
        · exact ⟨.inr (.inr rfl), .inr (by simp)⟩
        · have := lines_sign n (x :: a) b (by simp only [List.length_cons]; omega) r h
          exact ⟨this.1, by rcases this.2 with g | g; exact .inl g; exact .inr (by simp [g])⟩
theorem hdL_mem {h : Hd} (ho : okHd h) {x : List UInt8} (hx : x ∈ hdL h) : x.length ≤ 20000 := by
  obtain ⟨h1, h2, h3, h4, h5⟩ := ho
  rcases List.mem_cons.1 hx with rfl | hx
  · have v := verS_len h.n
    have q := padS_len3 h.k
    unfold lineS
    split <;> simp only [List.length_append, List.length_cons] <;> omega
  · obtain ⟨f, hf, rfl⟩ := List.mem_map.1 hx
    obtain ⟨b1, b2⟩ := canS_mem h5 hf
    unfold fldL fldLine
    split <;> simp only [List.length_append, List.length_cons, List.length_nil] <;> omega
end Go.Mdl
namespace Go.Proofs.Try.CanH
open Go Go.Abs Go.Proofs Go.Mdl
def T_specLineR : Tbl := fun g E args => (addT (addT nilT 33 Go.Proofs.Try.CanR.tb_specVersion) 34 Go.Proofs.Try.CanR.tb_specPad) g E args
theorem T_specLineR_ok : TblOK Try.prog T_specLineR := (addT_ok (addT_ok nilT_ok (by decide +kernel) Go.Proofs.Try.CanR.tb_specVersion_ok) (by decide +kernel) Go.Proofs.Try.CanR.tb_specPad_ok)
set_option maxRecDepth 100000 in
set_option maxHeartbeats 4000000 in
theorem specLineR (h : Hd) (ho : okHd h) : SpecE Try.prog 21 [] [enc_hd h] [] (.str (lineS h.m h.t h.n h.k h.r)) := by
  refine specF0 (C := T_specLineR) (wr := false) (D := fun _ => []) (U := fun _ => none) (res := [.str (lineS h.m h.t h.n h.k h.r)]) Try.Ty.mixed T_specLineR_ok Try.func21 (nA := 1) (by decide +kernel) rfl (fun _ => rfl) ?_
  simp only [Try.f21, bodyOf, rlOf]
  rw [W_V]
  simp (config := {maxSteps := 2000000}) only [T_specLineR, Go.Proofs.Try.CanR.tb_specVersion, Go.Proofs.Try.CanR.tb_specPad, go_sem, seval]
  (try simp (config := {maxSteps := 2000000}) only [gimp, impB, isT, go_sem, seval])
  obtain ⟨h1, h2, h3, h4, h5⟩ := ho
  have v := verS_len h.n
  have q := padS_len3 h.k
  simp only [inR] at h4
  simp only [List.length_append, List.length_cons, List.length_nil]
  refine ⟨fun h => ⟨by omega, h4, by omega, by omega, by omega, by rw [lineS, if_pos h]⟩, fun h => ⟨by omega, by omega, by omega, by omega, by rw [lineS, if_neg h]⟩⟩
def tb_specLineR : List Blk → List AV → Option (List Blk × AV × Prop)
  | [], [a0] => some ([], .str (lineS (dec_hd a0).m (dec_hd a0).t (dec_hd a0).n (dec_hd a0).k (dec_hd a0).r), (okHd (dec_hd a0)) ∧ argOK a0 (enc_hd (dec_hd a0)))
  | _, _ => none
theorem tb_specLineR_ok : ∀ E args E' res p, tb_specLineR E args = some (E', res, p) → p → SpecE Try.prog 21 E args E' res := by
  intro E args E' res p h hp
  unfold tb_specLineR at h
  split at h
  · simp only [Option.some.injEq, Prod.mk.injEq] at h
    obtain ⟨rfl, rfl, rfl⟩ := h
    exact SpecE.args (specLineR _ hp.1) (.cons hp.2 .nil)
  · cases h
def T_specTextR : Tbl := fun g E args => (addT (addT (addT nilT 21 Go.Proofs.Try.CanH.tb_specLineR) 22 Go.Proofs.Try.CanR.tb_specFields) 23 Go.Proofs.Try.Fld.tb_specLineR) g E args
theorem T_specTextR_ok : TblOK Try.prog T_specTextR := (addT_ok (addT_ok (addT_ok nilT_ok (by decide +kernel) Go.Proofs.Try.CanH.tb_specLineR_ok) (by decide +kernel) Go.Proofs.Try.CanR.tb_specFields_ok) (by decide +kernel) Go.Proofs.Try.Fld.tb_specLineR_ok)
set_option maxRecDepth 100000 in
set_option maxHeartbeats 4000000 in
theorem specTextR (h : Hd) (ho : okHd h) : SpecE Try.prog 14 [] [enc_hd h] [] (enc_strs (hdL h)) := by
  refine specF0 (C := T_specTextR) (wr := false) (D := fun i => if i = 1 then [2, 30032, 50032, 60032] else []) (U := fun _ => none) (res := [enc_strs (hdL h)]) Try.Ty.mixed T_specTextR_ok Try.func14 (nA := 1) (by decide +kernel) rfl (fun _ => rfl) ?_
  simp only [Try.f14, bodyOf, rlOf]
  rw [W_V]
  simp (config := {maxSteps := 2000000}) only [T_specTextR, Go.Proofs.Try.CanH.tb_specLineR, Go.Proofs.Try.CanR.tb_specFields, Go.Proofs.Try.Fld.tb_specLineR, go_sem, seval]
  (try simp (config := {maxSteps := 2000000}) only [gimp, impB, isT, go_sem, seval])
  have hl := ho.2.2.2.2
  have hm2 : (1000000 : Nat) ≤ maxLen := by decide
  have cl := canT_len h.l h.l.length
  have fl := (fewF_len hl).1
  have c2 : h.l.length * (h.l.length + 1) ≤ 40 * 41 := Nat.mul_le_mul fl (by omega)
  have cl2 : (canS h.l).length ≤ 1640 := Nat.le_trans cl c2
  refine ⟨ho, hl, ?_⟩
  refine VL_inv (X := Nat) (fun j => ⟨[(3, .ref 144 0 (1 + j) (1 + j)), (4, enc_flds (canS h.l)), (5, .int .i64 j)], [(144, .cells 1 false (.str []) ((lineS h.m h.t h.n h.k h.r :: ((canS h.l).take j).map fldL).map .str))]⟩) (fun j => j ≤ (canS h.l).length) (fun j => (canS h.l).length - j) 0 ?_ ?_ ?_
  · simp only [List.take_zero, List.map_nil, T_specTextR, Go.Proofs.Try.CanH.tb_specLineR, Go.Proofs.Try.CanR.tb_specFields, Go.Proofs.Try.Fld.tb_specLineR, go_sem, seval]
    try rfl
  · exact Nat.zero_le _
  intro j hj
  simp (config := {maxSteps := 2000000}) only [T_specTextR, Go.Proofs.Try.CanH.tb_specLineR, Go.Proofs.Try.CanR.tb_specFields, Go.Proofs.Try.Fld.tb_specLineR, go_sem, seval]
  (try simp (config := {maxSteps := 2000000}) only [gimp, impB, isT, go_sem, seval])
  have sn : ∀ (o : List (List UInt8)) t, o.map AV.str ++ [AV.str t] = (o ++ [t]).map AV.str := fun o t => by rw [List.map_append]; rfl
  have hl1 : (lineS h.m h.t h.n h.k h.r :: ((canS h.l).take j).map fldL).length = 1 + j := by rw [List.length_cons, List.length_map, List.length_take]; omega
  refine ⟨fun hlt => ?_, fun hge => ?_⟩
  · have mem : (canS h.l).getD j ([], []) ∈ canS h.l := List.mem_of_getElem? (getD_of_lt (s := canS h.l) (d := ([], [])) (by omega))
    obtain ⟨b1, b2⟩ := canS_mem hl mem
    have tl : ((canS h.l).take j).length = j := by rw [List.length_take]; omega
    refine ⟨by omega, ⟨by omega, by omega⟩, ⟨by omega, by omega, by omega⟩, by omega, j + 1, ⟨⟨by omega, by omega⟩, ?_⟩, by omega, by omega⟩
    rw [take_succ_getD ([], []) (show j < (canS h.l).length by omega), List.map_append, List.map_append]
    rfl
  · have e : j = (canS h.l).length := by omega
    subst e
    rw [List.take_length]
    refine ⟨?_, by omega⟩
    rw [hdL, headL, List.map_cons, List.take_of_length_le (by simp; omega)]
def tb_specTextR : List Blk → List AV → Option (List Blk × AV × Prop)
  | [], [a0] => some ([], enc_strs (hdL (dec_hd a0)), (okHd (dec_hd a0)) ∧ argOK a0 (enc_hd (dec_hd a0)))
  | _, _ => none
theorem tb_specTextR_ok : ∀ E args E' res p, tb_specTextR E args = some (E', res, p) → p → SpecE Try.prog 14 E args E' res := by
  intro E args E' res p h hp
  unfold tb_specTextR at h
  split at h
  · simp only [Option.some.injEq, Prod.mk.injEq] at h
    obtain ⟨rfl, rfl, rfl⟩ := h
    exact SpecE.args (specTextR _ hp.1) (.cons hp.2 .nil)
  · cases h
def T_specHeads : Tbl := fun g E args => (addT (addT nilT 12 Go.Proofs.Try.Can.tb_specHeadLines) 10 Go.Proofs.Try.Dif.tb_specLines) g E args
theorem T_specHeads_ok : TblOK Try.prog T_specHeads := (addT_ok (addT_ok nilT_ok (by decide +kernel) Go.Proofs.Try.Can.tb_specHeadLines_ok) (by decide +kernel) Go.Proofs.Try.Dif.tb_specLines_ok)
set_option maxRecDepth 100000 in
set_option maxHeartbeats 4000000 in
theorem specHeads (a b : Hd) (ha : okHd a) (hb : okHd b) : SpecE Try.prog 7 [] [enc_hd a, enc_hd b] [] (enc_strs (headsS a b)) := by
  refine specF0 (C := T_specHeads) (wr := false) (D := fun i => if i = 6 then [8, 9] else []) (U := fun _ => none) (res := [enc_strs (headsS a b)]) Try.Ty.mixed T_specHeads_ok Try.func7 (nA := 2) (by decide +kernel) rfl (fun _ => rfl) ?_
  simp only [Try.f7, bodyOf, rlOf]
  rw [W_V]
  simp (config := {maxSteps := 2000000}) only [T_specHeads, Go.Proofs.Try.Can.tb_specHeadLines, Go.Proofs.Try.Dif.tb_specLines, go_sem, seval]
  (try simp (config := {maxSteps := 2000000}) only [gimp, impB, isT, go_sem, seval])
  have al := hdL_len ha
  have bl := hdL_len hb
  have ll : (linesS (hdL a) (hdL b)).length ≤ (hdL a).length + (hdL b).length := linesS_len _ _ _ (Nat.le_refl _)
  have ll : (linesS (hdL a) (hdL b)).length ≤ 3282 := by omega
  have lm := lines_sign _ (hdL a) (hdL b) (Nat.le_refl _)
  have am := fun x => hdL_mem (h := a) (x := x) ha
  have bm := fun x => hdL_mem (h := b) (x := x) hb
  obtain ⟨a1, a2, a3, a4, a5⟩ := ha
  obtain ⟨b1, b2, b3, b4, b5⟩ := hb
  simp only [hdL] at al bl
  refine ⟨⟨by omega, by omega, by omega, a4, a5⟩, ⟨by omega, by omega, by omega, b4, b5⟩, ⟨by omega, by omega⟩, ?_⟩
  obtain ⟨l, hl⟩ : ∃ l, l = linesS (hdL a) (hdL b) := ⟨_, rfl⟩
  rw [← hl] at ll lm
  refine VL_inv (X := Nat) (fun j => ⟨[(5, .ptr 96 0 0 3), (6, .ref 480 0 j j), (14, enc_rws l), (15, .int .i64 l.length), (16, .int .i64 j)], [(96, .cells 1 false (.str []) [.str [32, 32], .str [45, 32], .str [43, 32]]), (480, .cells 1 false (.str []) (((l.take j).map rwT).map .str))]⟩) (fun j => j ≤ l.length) (fun j => l.length - j) 0 ?_ ?_ ?_
  · subst hl
    simp only [List.take_zero, List.map_nil, T_specHeads, Go.Proofs.Try.Can.tb_specHeadLines, Go.Proofs.Try.Dif.tb_specLines, go_sem, seval]
    first
      | done
      | exact ⟨rfl, rfl⟩
      | rfl
  · exact Nat.zero_le _
  intro j hj
  have sn : ∀ (o : List (List UInt8)) t, o.map AV.str ++ [AV.str t] = (o ++ [t]).map AV.str := fun o t => by rw [List.map_append]; rfl
  have tl : ((l.take j).map rwT).length = j := by rw [List.length_map, List.length_take]; omega
  by_cases hlt : j < l.length
  · have mem : l.getD j (0, []) ∈ l := List.mem_of_getElem? (getD_of_lt (s := l) (d := (0, [])) hlt)
    obtain ⟨s3, hx⟩ := lm _ mem
    have hx2 : (l.getD j (0, [])).2.length ≤ 20000 := hx.elim (am _) (bm _)
    have tk := take_succ_getD (s := l) (x := j) (0, []) hlt
    obtain ⟨t, ht⟩ : ∃ t, t = (l.getD j (0, [])).2 := ⟨_, rfl⟩
    rw [← ht] at hx2
    have fin : ∀ s, l.getD j (0, []) = (s, t) → (l.take (j + 1)).map rwT = (l.take j).map rwT ++ [signT s ++ t] := fun s h => by rw [tk, h, List.map_append]; rfl
    rcases s3 with s3 | s3 | s3
    · have hr : l.getD j (0, []) = (0, t) := Prod.ext s3 ht.symm
      have fn := fin 0 hr
      clear tk fin mem hx ht s3 lm am bm
      simp (config := {maxSteps := 2000000}) only [T_specHeads, Go.Proofs.Try.Can.tb_specHeadLines, Go.Proofs.Try.Dif.tb_specLines, go_sem, seval, hr]
      (try simp (config := {maxSteps := 2000000}) only [gimp, impB, isT, go_sem, seval])
      refine ⟨fun _ => ?_, fun h => by omega⟩
      have tk2 : (l.take j).length = j := by rw [List.length_take]; omega
      exact ⟨by omega, by omega, ⟨by omega, by omega, by omega⟩, by omega, j + 1, ⟨⟨rfl, by omega⟩, by rw [fn, sn]; rfl⟩, by omega, by omega⟩
    · have hr : l.getD j (0, []) = (1, t) := Prod.ext s3 ht.symm
      have fn := fin 1 hr
      clear tk fin mem hx ht s3 lm am bm
      simp (config := {maxSteps := 2000000}) only [T_specHeads, Go.Proofs.Try.Can.tb_specHeadLines, Go.Proofs.Try.Dif.tb_specLines, go_sem, seval, hr]
      (try simp (config := {maxSteps := 2000000}) only [gimp, impB, isT, go_sem, seval])
      refine ⟨fun _ => ?_, fun h => by omega⟩
      have tk2 : (l.take j).length = j := by rw [List.length_take]; omega
      exact ⟨by omega, by omega, ⟨by omega, by omega, by omega⟩, by omega, j + 1, ⟨⟨rfl, by omega⟩, by rw [fn, sn]; rfl⟩, by omega, by omega⟩
    · have hr : l.getD j (0, []) = (2, t) := Prod.ext s3 ht.symm
      have fn := fin 2 hr
      clear tk fin mem hx ht s3 lm am bm
      simp (config := {maxSteps := 2000000}) only [T_specHeads, Go.Proofs.Try.Can.tb_specHeadLines, Go.Proofs.Try.Dif.tb_specLines, go_sem, seval, hr]
      (try simp (config := {maxSteps := 2000000}) only [gimp, impB, isT, go_sem, seval])
      refine ⟨fun _ => ?_, fun h => by omega⟩
      have tk2 : (l.take j).length = j := by rw [List.length_take]; omega
      exact ⟨by omega, by omega, ⟨by omega, by omega, by omega⟩, by omega, j + 1, ⟨⟨rfl, by omega⟩, by rw [fn, sn]; rfl⟩, by omega, by omega⟩
  · have e : j = l.length := by omega
    subst e
    simp (config := {maxSteps := 2000000}) only [T_specHeads, Go.Proofs.Try.Can.tb_specHeadLines, Go.Proofs.Try.Dif.tb_specLines, go_sem, seval]
    (try simp (config := {maxSteps := 2000000}) only [gimp, impB, isT, go_sem, seval])
    refine ⟨fun h => by omega, ?_, by rw [List.take_length]⟩
    rw [List.take_length, headsS, ← hl, List.take_of_length_le (by simp)]
def tb_specHeads : List Blk → List AV → Option (List Blk × AV × Prop)
  | [], [a0, a1] => some ([], enc_strs (headsS (dec_hd a0) (dec_hd a1)), (okHd (dec_hd a0)) ∧ (okHd (dec_hd a1)) ∧ argOK a0 (enc_hd (dec_hd a0)) ∧ argOK a1 (enc_hd (dec_hd a1)))
  | _, _ => none
theorem tb_specHeads_ok : ∀ E args E' res p, tb_specHeads E args = some (E', res, p) → p → SpecE Try.prog 7 E args E' res := by
  intro E args E' res p h hp
  unfold tb_specHeads at h
  split at h
  · simp only [Option.some.injEq, Prod.mk.injEq] at h
    obtain ⟨rfl, rfl, rfl⟩ := h
    exact SpecE.args (specHeads _ _ hp.1 hp.2.1) (.cons hp.2.2.1 (.cons hp.2.2.2 .nil))
  · cases h
def T_specHeadsR : Tbl := fun g E args => (addT (addT nilT 14 Go.Proofs.Try.CanH.tb_specTextR) 13 Go.Proofs.Try.Dif.tb_specLinesR) g E args
theorem T_specHeadsR_ok : TblOK Try.prog T_specHeadsR := (addT_ok (addT_ok nilT_ok (by decide +kernel) Go.Proofs.Try.CanH.tb_specTextR_ok) (by decide +kernel) Go.Proofs.Try.Dif.tb_specLinesR_ok)
set_option maxRecDepth 100000 in
set_option maxHeartbeats 4000000 in
theorem specHeadsR (a b : Hd) (ha : okHd a) (hb : okHd b) : SpecE Try.prog 8 [] [enc_hd a, enc_hd b] [] (enc_strs (headsS a b)) := by
  refine specF0 (C := T_specHeadsR) (wr := false) (D := fun i => if i = 1 then [5, 60048, 10048, 60064, 30064, 20048, 40048, 50048] else []) (U := fun _ => none) (res := [enc_strs (headsS a b)]) Try.Ty.mixed T_specHeadsR_ok Try.func8 (nA := 2) (by decide +kernel) rfl (fun _ => rfl) ?_
  simp only [Try.f8, bodyOf, rlOf]
  rw [W_V]
  simp (config := {maxSteps := 2000000}) only [T_specHeadsR, Go.Proofs.Try.CanH.tb_specTextR, Go.Proofs.Try.Dif.tb_specLinesR, go_sem, seval]
  (try simp (config := {maxSteps := 2000000}) only [gimp, impB, isT, go_sem, seval])
  have al := hdL_len ha
  have bl := hdL_len hb
  have ll : (linesS (hdL a) (hdL b)).length ≤ (hdL a).length + (hdL b).length := linesS_len _ _ _ (Nat.le_refl _)
  have lm := lines_sign _ (hdL a) (hdL b) (Nat.le_refl _)
  have am := fun x => hdL_mem (h := a) (x := x) ha
  have bm := fun x => hdL_mem (h := b) (x := x) hb
  refine ⟨ha, hb, ⟨Nat.le_trans al (by omega), Nat.le_trans bl (by omega)⟩, ?_⟩
  obtain ⟨l, hl⟩ : ∃ l, l = linesS (hdL a) (hdL b) := ⟨_, rfl⟩
  rw [← hl] at ll lm
  refine VL_inv (X := Nat) (fun j => ⟨[(5, enc_rws l), (6, .ref 224 0 j j), (7, .int .i64 j)], [(224, .cells 1 false (.str []) (((l.take j).map rwT).map .str))]⟩) (fun j => j ≤ l.length) (fun j => l.length - j) 0 ?_ ?_ ?_
  · subst hl
    simp only [List.take_zero, List.map_nil, T_specHeadsR, Go.Proofs.Try.CanH.tb_specTextR, Go.Proofs.Try.Dif.tb_specLinesR, go_sem, seval]
    first
      | done
      | exact ⟨rfl, rfl⟩
      | rfl
  · exact Nat.zero_le _
  intro j hj
  have sn : ∀ (o : List (List UInt8)) t, o.map AV.str ++ [AV.str t] = (o ++ [t]).map AV.str := fun o t => by rw [List.map_append]; rfl
  have tl : ((l.take j).map rwT).length = j := by rw [List.length_map, List.length_take]; omega
  by_cases hlt : j < l.length
  · have mem : l.getD j (0, []) ∈ l := List.mem_of_getElem? (getD_of_lt (s := l) (d := (0, [])) hlt)
    obtain ⟨s3, hx⟩ := lm _ mem
    have hx2 : (l.getD j (0, [])).2.length ≤ 20000 := hx.elim (am _) (bm _)
    have tk := take_succ_getD (s := l) (x := j) (0, []) hlt
    obtain ⟨t, ht⟩ : ∃ t, t = (l.getD j (0, [])).2 := ⟨_, rfl⟩
    rw [← ht] at hx2
    have fin : ∀ s, l.getD j (0, []) = (s, t) → (l.take (j + 1)).map rwT = (l.take j).map rwT ++ [signT s ++ t] := fun s h => by rw [tk, h, List.map_append]; rfl
    rcases s3 with s3 | s3 | s3
    · have hr : l.getD j (0, []) = (0, t) := Prod.ext s3 ht.symm
      have fn := fin 0 hr
      clear tk fin mem hx ht s3 lm am bm
      simp (config := {maxSteps := 2000000}) only [T_specHeadsR, Go.Proofs.Try.CanH.tb_specTextR, Go.Proofs.Try.Dif.tb_specLinesR, go_sem, seval, hr]
      (try simp (config := {maxSteps := 2000000}) only [gimp, impB, isT, go_sem, seval])
      refine ⟨fun _ => ?_, fun h => by omega⟩
      have tk2 : (l.take j).length = j := by rw [List.length_take]; omega
      exact ⟨by omega, by omega, by omega, ⟨by omega, by omega, by omega⟩, by omega, j + 1, ⟨⟨rfl, by omega⟩, by rw [fn, sn]; rfl⟩, by omega, by omega⟩
    · have hr : l.getD j (0, []) = (1, t) := Prod.ext s3 ht.symm
      have fn := fin 1 hr
      clear tk fin mem hx ht s3 lm am bm
      simp (config := {maxSteps := 2000000}) only [T_specHeadsR, Go.Proofs.Try.CanH.tb_specTextR, Go.Proofs.Try.Dif.tb_specLinesR, go_sem, seval, hr]
      (try simp (config := {maxSteps := 2000000}) only [gimp, impB, isT, go_sem, seval])
      refine ⟨fun _ => ?_, fun h => by omega⟩
      have tk2 : (l.take j).length = j := by rw [List.length_take]; omega
      exact ⟨by omega, by omega, by omega, by omega, ⟨by omega, by omega, by omega⟩, by omega, j + 1, ⟨⟨rfl, by omega⟩, by rw [fn, sn]; rfl⟩, by omega, by omega⟩
    · have hr : l.getD j (0, []) = (2, t) := Prod.ext s3 ht.symm
      have fn := fin 2 hr
      clear tk fin mem hx ht s3 lm am bm
      simp (config := {maxSteps := 2000000}) only [T_specHeadsR, Go.Proofs.Try.CanH.tb_specTextR, Go.Proofs.Try.Dif.tb_specLinesR, go_sem, seval, hr]
      (try simp (config := {maxSteps := 2000000}) only [gimp, impB, isT, go_sem, seval])
      refine ⟨fun _ => ?_, fun h => by omega⟩
      have tk2 : (l.take j).length = j := by rw [List.length_take]; omega
      exact ⟨by omega, by omega, by omega, by omega, ⟨by omega, by omega, by omega⟩, by omega, j + 1, ⟨⟨rfl, by omega⟩, by rw [fn, sn]; rfl⟩, by omega, by omega⟩
  · have e : j = l.length := by omega
    subst e
    simp (config := {maxSteps := 2000000}) only [T_specHeadsR, Go.Proofs.Try.CanH.tb_specTextR, Go.Proofs.Try.Dif.tb_specLinesR, go_sem, seval]
    (try simp (config := {maxSteps := 2000000}) only [gimp, impB, isT, go_sem, seval])
    refine ⟨fun h => by omega, ?_, by rw [List.take_length]⟩
    rw [List.take_length, headsS, ← hl, List.take_of_length_le (by simp)]
def tb_specHeadsR : List Blk → List AV → Option (List Blk × AV × Prop)
  | [], [a0, a1] => some ([], enc_strs (headsS (dec_hd a0) (dec_hd a1)), (okHd (dec_hd a0)) ∧ (okHd (dec_hd a1)) ∧ argOK a0 (enc_hd (dec_hd a0)) ∧ argOK a1 (enc_hd (dec_hd a1)))
  | _, _ => none
theorem tb_specHeadsR_ok : ∀ E args E' res p, tb_specHeadsR E args = some (E', res, p) → p → SpecE Try.prog 8 E args E' res := by
  intro E args E' res p h hp
  unfold tb_specHeadsR at h
  split at h
  · simp only [Option.some.injEq, Prod.mk.injEq] at h
    obtain ⟨rfl, rfl, rfl⟩ := h
    exact SpecE.args (specHeadsR _ _ hp.1 hp.2.1) (.cons hp.2.2.1 (.cons hp.2.2.2 .nil))
  · cases h
def T_specShort : Tbl := fun g E args => (addT nilT 9 Go.Proofs.Try.HdrR.tb_specFew) g E args
theorem T_specShort_ok : TblOK Try.prog T_specShort := (addT_ok nilT_ok (by decide +kernel) Go.Proofs.Try.HdrR.tb_specFew_ok)
set_option maxRecDepth 100000 in
set_option maxHeartbeats 4000000 in
theorem specShort (h : Hd) (hl : h.l.length ≤ maxLen) : SpecE Try.prog 4 [] [enc_hd h] [] (.bool (shortH h)) := by
  refine specF0 (C := T_specShort) (wr := false) (D := fun _ => []) (U := fun _ => none) (res := [.bool (shortH h)]) Try.Ty.mixed T_specShort_ok Try.func4 (nA := 1) (by decide +kernel) rfl (fun _ => rfl) ?_
  simp only [Try.f4, bodyOf, rlOf]
  rw [W_V]
  simp (config := {maxSteps := 2000000}) only [T_specShort, Go.Proofs.Try.HdrR.tb_specFew, go_sem, seval]
  (try simp (config := {maxSteps := 2000000}) only [gimp, impB, isT, go_sem, seval])
  refine ⟨hl, ?_⟩
  have c : ∀ n m : Nat, decide ((n : Int) ≤ (m : Int)) = decide (n ≤ m) := fun n m => by
    rw [Bool.eq_iff_iff, decide_eq_true_eq, decide_eq_true_eq]; omega
  have c1 := c h.m.length 100
  have c2 := c h.t.length 500
  have c3 := c h.r.length 300
  rw [shortH, ← c1, ← c2, ← c3]
  simp only [Bool.and_assoc]
  rfl
def tb_specShort : List Blk → List AV → Option (List Blk × AV × Prop)
  | [], [a0] => some ([], .bool (shortH (dec_hd a0)), ((dec_hd a0).l.length ≤ maxLen) ∧ argOK a0 (enc_hd (dec_hd a0)))
  | _, _ => none
theorem tb_specShort_ok : ∀ E args E' res p, tb_specShort E args = some (E', res, p) → p → SpecE Try.prog 4 E args E' res := by
  intro E args E' res p h hp
  unfold tb_specShort at h
  split at h
  · simp only [Option.some.injEq, Prod.mk.injEq] at h
    obtain ⟨rfl, rfl, rfl⟩ := h
    exact SpecE.args (specShort _ hp.1) (.cons hp.2 .nil)
  · cases h
def T_specLawHeads : Tbl := fun g E args => (addT (addT (addT (addT (addT nilT 4 Go.Proofs.Try.CanH.tb_specShort) 7 Go.Proofs.Try.CanH.tb_specHeads) 8 Go.Proofs.Try.CanH.tb_specHeadsR) 6 Go.Proofs.Try.Oct.tb_specSame) 5 Go.Proofs.Try.Dif.tb_specLives) g E args
theorem T_specLawHeads_ok : TblOK Try.prog T_specLawHeads := (addT_ok (addT_ok (addT_ok (addT_ok (addT_ok nilT_ok (by decide +kernel) Go.Proofs.Try.CanH.tb_specShort_ok) (by decide +kernel) Go.Proofs.Try.CanH.tb_specHeads_ok) (by decide +kernel) Go.Proofs.Try.CanH.tb_specHeadsR_ok) (by decide +kernel) Go.Proofs.Try.Oct.tb_specSame_ok) (by decide +kernel) Go.Proofs.Try.Dif.tb_specLives_ok)
set_option maxRecDepth 100000 in
set_option maxHeartbeats 4000000 in
theorem specLawHeads (a b : Hd) (ha : a.l.length ≤ maxLen) (hb : b.l.length ≤ maxLen) (hka : inR .i64 a.k) (hkb : inR .i64 b.k) : SpecE Try.prog 3 [] [enc_hd a, enc_hd b] [] (.bool true) := by
  refine specF0 (C := T_specLawHeads) (wr := false) (D := fun _ => []) (U := fun _ => none) (res := [.bool true]) Try.Ty.mixed T_specLawHeads_ok Try.func3 (nA := 2) (by decide +kernel) rfl (fun _ => rfl) ?_
  simp only [Try.f3, bodyOf, rlOf]
  rw [W_V]
  simp (config := {maxSteps := 2000000}) only [T_specLawHeads, Go.Proofs.Try.CanH.tb_specShort, Go.Proofs.Try.CanH.tb_specHeads, Go.Proofs.Try.CanH.tb_specHeadsR, Go.Proofs.Try.Oct.tb_specSame, Go.Proofs.Try.Dif.tb_specLives, go_sem, seval]
  (try simp (config := {maxSteps := 2000000}) only [gimp, impB, isT, go_sem, seval])
  have ok : ∀ h : Hd, inR .i64 h.k → shortH h = true → okHd h := fun h hk hs => by
    simp only [shortH, Bool.and_eq_true, decide_eq_true_eq] at hs
    exact ⟨hs.2.1, hs.2.2.1, hs.2.2.2, hk, hs.1⟩
  refine ⟨ha, fun _ => hb, fun h1 h2 _ _ => ?_⟩
  have oa := ok a hka h1
  have ob := ok b hkb h2
  refine ⟨⟨oa, ob⟩, ⟨oa, ob⟩, ?_⟩
  have al := hdL_len oa
  have bl := hdL_len ob
  have ll : (linesS (hdL a) (hdL b)).length ≤ (hdL a).length + (hdL b).length := linesS_len _ _ _ (Nat.le_refl _)
  show (headsS a b).length ≤ 2147483647
  rw [headsS, List.length_map]
  omega
theorem lawHeads (m t r m' t' r' : List UInt8) (n k n' k' : Int) (l l' : List Fld) (ha : l.length ≤ maxLen) (hb : l'.length ≤ maxLen) (hka : inR .i64 k) (hkb : inR .i64 k') :
    SpecE Try.prog 3 [] [.agg [.str m, .str t, .int .i64 n, .int .i64 k, .str r, .list 2 (l.map fun r => .agg [.str r.1, .str r.2])], .agg [.str m', .str t', .int .i64 n', .int .i64 k', .str r', .list 2 (l'.map fun r => .agg [.str r.1, .str r.2])]] [] (.bool true) :=
  specLawHeads ⟨m, t, n, k, r, l⟩ ⟨m', t', n', k', r', l'⟩ ha hb hka hkb
end Go.Proofs.Try.CanH
end
