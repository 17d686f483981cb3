import Derived.Test.YtoegojolimaodaaGreatDoorShRF
import Derived.Test.YtoegojolimaodaaGreatDoorRows
import Derived.JoinedOf
import Derived.KernelRfl
import Derived.Shelf.Strings.Builder1
import Derived.Shelf.Strings.Builder2
import Derived.Shelf.Strings.OnBuilder
import Derived.Shelf.Small.Strs
import Derived.Shelf.Small.Wraps
import Derived.Shelf.Strings.BuilderF
import Derived.Shelf.Strings.BuilderK
import Derived.Shelf.Strings.Builder2Cap
import Derived.Shelf.Strings.Search1
import Derived.Shelf.Strings.Search2
import Derived.Shelf.Strings.Search3
import Derived.Shelf.Strings.Cut
import Derived.Shelf.Strings.Count
import Derived.Shelf.LaysM
import Derived.Shelf.Strings.Shaped
import Derived.Shelf.Strings.LastIndex
import Derived.Shelf.Strings.Prefix
import Derived.Shelf.Unicode.DecodeSlow
import Derived.Shelf.Strings.BuilderCap
import Derived.Ground.PaProg
import Derived.Shelf.Path.Small
import Derived.Test.YtoegojolimaodaaGreatDoorProg
section
set_option linter.unusedVariables false
set_option maxRecDepth 100000
namespace Go.Proofs.YtoegojolimaodaaGreatDoor.Facts
open Go Go.Proofs
theorem andT {a b : Bool} (ha : a = true) (hb : b = true) : (a && b) = true := by rw [ha, hb]; rfl
theorem init : Tryz.pinned.checked.prog.initOrder.toList = [Char.ofNat 104, Char.ofNat 97, Char.ofNat 114, Char.ofNat 110, Char.ofNat 101, Char.ofNat 115, Char.ofNat 115, Char.ofNat 32, Char.ofNat 100, Char.ofNat 49, Char.ofNat 56, Char.ofNat 50, Char.ofNat 52, Char.ofNat 100, Char.ofNat 55, Char.ofNat 56, Char.ofNat 54, Char.ofNat 53, Char.ofNat 98, Char.ofNat 52, Char.ofNat 97, Char.ofNat 101, Char.ofNat 97, Char.ofNat 52, Char.ofNat 48, Char.ofNat 97, Char.ofNat 51, Char.ofNat 97, Char.ofNat 57, Char.ofNat 51, Char.ofNat 98, Char.ofNat 50, Char.ofNat 55, Char.ofNat 102, Char.ofNat 48, Char.ofNat 98, Char.ofNat 48, Char.ofNat 48, Char.ofNat 50, Char.ofNat 51, Char.ofNat 98, Char.ofNat 100, Char.ofNat 99, Char.ofNat 102, Char.ofNat 48, Char.ofNat 101, Char.ofNat 56, Char.ofNat 50, Char.ofNat 53, Char.ofNat 57, Char.ofNat 50, Char.ofNat 54, Char.ofNat 52, Char.ofNat 52, Char.ofNat 48, Char.ofNat 102, Char.ofNat 99, Char.ofNat 53, Char.ofNat 54, Char.ofNat 50, Char.ofNat 102, Char.ofNat 50, Char.ofNat 102, Char.ofNat 99, Char.ofNat 56, Char.ofNat 102, Char.ofNat 99, Char.ofNat 56, Char.ofNat 100, Char.ofNat 52, Char.ofNat 53, Char.ofNat 49, Char.ofNat 32, Char.ofNat 99, Char.ofNat 117, Char.ofNat 116, Char.ofNat 32, Char.ofNat 97, Char.ofNat 116, Char.ofNat 32, Char.ofNat 97, Char.ofNat 98, Char.ofNat 117, Char.ofNat 116, Char.ofNat 109, Char.ofNat 101, Char.ofNat 110, Char.ofNat 116, Char.ofNat 47, Char.ofNat 97, Char.ofNat 98, Char.ofNat 117, Char.ofNat 116, Char.ofNat 109, Char.ofNat 101, Char.ofNat 110, Char.ofNat 116, Char.ofNat 108, Char.ofNat 97, Char.ofNat 119, Char.ofNat 52, Char.ofNat 53, Char.ofNat 46, Char.ofNat 83, Char.ofNat 99, Char.ofNat 114, Char.ofNat 105, Char.ofNat 112, Char.ofNat 116, Char.ofNat 80, Char.ofNat 97, Char.ofNat 114, Char.ofNat 115, Char.ofNat 101, Char.ofNat 115, Char.ofNat 32, Char.ofNat 97, Char.ofNat 98, Char.ofNat 117, Char.ofNat 116, Char.ofNat 109, Char.ofNat 101, Char.ofNat 110, Char.ofNat 116, Char.ofNat 47, Char.ofNat 97, Char.ofNat 98, Char.ofNat 117, Char.ofNat 116, Char.ofNat 109, Char.ofNat 101, Char.ofNat 110, Char.ofNat 116, Char.ofNat 108, Char.ofNat 97, Char.ofNat 119, Char.ofNat 52, Char.ofNat 53, Char.ofNat 46, Char.ofNat 83, Char.ofNat 99, Char.ofNat 114, Char.ofNat 105, Char.ofNat 112, Char.ofNat 116, Char.ofNat 80, Char.ofNat 114, Char.ofNat 105, Char.ofNat 110, Char.ofNat 116, Char.ofNat 115] := by
  have e : Tryz.pinned.checked.prog.initOrder = String.ofList [Char.ofNat 104, Char.ofNat 97, Char.ofNat 114, Char.ofNat 110, Char.ofNat 101, Char.ofNat 115, Char.ofNat 115, Char.ofNat 32, Char.ofNat 100, Char.ofNat 49, Char.ofNat 56, Char.ofNat 50, Char.ofNat 52, Char.ofNat 100, Char.ofNat 55, Char.ofNat 56, Char.ofNat 54, Char.ofNat 53, Char.ofNat 98, Char.ofNat 52, Char.ofNat 97, Char.ofNat 101, Char.ofNat 97, Char.ofNat 52, Char.ofNat 48, Char.ofNat 97, Char.ofNat 51, Char.ofNat 97, Char.ofNat 57, Char.ofNat 51, Char.ofNat 98, Char.ofNat 50, Char.ofNat 55, Char.ofNat 102, Char.ofNat 48, Char.ofNat 98, Char.ofNat 48, Char.ofNat 48, Char.ofNat 50, Char.ofNat 51, Char.ofNat 98, Char.ofNat 100, Char.ofNat 99, Char.ofNat 102, Char.ofNat 48, Char.ofNat 101, Char.ofNat 56, Char.ofNat 50, Char.ofNat 53, Char.ofNat 57, Char.ofNat 50, Char.ofNat 54, Char.ofNat 52, Char.ofNat 52, Char.ofNat 48, Char.ofNat 102, Char.ofNat 99, Char.ofNat 53, Char.ofNat 54, Char.ofNat 50, Char.ofNat 102, Char.ofNat 50, Char.ofNat 102, Char.ofNat 99, Char.ofNat 56, Char.ofNat 102, Char.ofNat 99, Char.ofNat 56, Char.ofNat 100, Char.ofNat 52, Char.ofNat 53, Char.ofNat 49, Char.ofNat 32, Char.ofNat 99, Char.ofNat 117, Char.ofNat 116, Char.ofNat 32, Char.ofNat 97, Char.ofNat 116, Char.ofNat 32, Char.ofNat 97, Char.ofNat 98, Char.ofNat 117, Char.ofNat 116, Char.ofNat 109, Char.ofNat 101, Char.ofNat 110, Char.ofNat 116, Char.ofNat 47, Char.ofNat 97, Char.ofNat 98, Char.ofNat 117, Char.ofNat 116, Char.ofNat 109, Char.ofNat 101, Char.ofNat 110, Char.ofNat 116, Char.ofNat 108, Char.ofNat 97, Char.ofNat 119, Char.ofNat 52, Char.ofNat 53, Char.ofNat 46, Char.ofNat 83, Char.ofNat 99, Char.ofNat 114, Char.ofNat 105, Char.ofNat 112, Char.ofNat 116, Char.ofNat 80, Char.ofNat 97, Char.ofNat 114, Char.ofNat 115, Char.ofNat 101, Char.ofNat 115, Char.ofNat 32, Char.ofNat 97, Char.ofNat 98, Char.ofNat 117, Char.ofNat 116, Char.ofNat 109, Char.ofNat 101, Char.ofNat 110, Char.ofNat 116, Char.ofNat 47, Char.ofNat 97, Char.ofNat 98, Char.ofNat 117, Char.ofNat 116, Char.ofNat 109, Char.ofNat 101, Char.ofNat 110, Char.ofNat 116, Char.ofNat 108, Char.ofNat 97, Char.ofNat 119, Char.ofNat 52, Char.ofNat 53, Char.ofNat 46, Char.ofNat 83, Char.ofNat 99, Char.ofNat 114, Char.ofNat 105, Char.ofNat 112, Char.ofNat 116, Char.ofNat 80, Char.ofNat 114, Char.ofNat 105, Char.ofNat 110, Char.ofNat 116, Char.ofNat 115] := by kernel_rfl
  rw [e, String.toList_ofList]
theorem strip (rest : List (List Char)) : stripLifts liftWords ("cut".toList :: rest) = ([], "cut".toList :: rest) := by kernel_rfl
theorem mayOf {P : Program} {rest : List (List Char)} (h : behindMainWord (wordsSigns P.initOrder.toList) = "cut".toList :: rest) (a : P.laysLater = false) (b : P.bearsReflect = false) (d : P.doorFits [] = true) : P.mayEnter = true := by
  have e1 : ("cut".toList == "gc".toList) = false := by kernel_rfl
  have e2 : ("cut".toList == "spec".toList) = false := by kernel_rfl
  have e3 : ("cut".toList == "carried".toList) = false := by kernel_rfl
  have e4 : (some "cut".toList == some "cut".toList) = true := by kernel_rfl
  unfold Program.mayEnter
  rw [h]
  show ((("cut".toList == "gc".toList) || ("cut".toList == "spec".toList)) && _ || _ || _) = true
  rw [e1, e2, e3, strip]
  simp only [a, b, d, List.head?_cons, e4, Bool.or_false, Bool.false_and, Bool.not_false, Bool.or_true, Bool.and_true, List.contains_nil]
theorem headOf {P : Program} {rest : List (List Char)} (h : behindMainWord (wordsSigns P.initOrder.toList) = "cut".toList :: rest) : P.headLifts = [] := by
  unfold Program.headLifts
  rw [h, strip]
  exact ite_self _
theorem finalOf {P : Program} {rest : List (List Char)} (h : behindMainWord (wordsSigns P.initOrder.toList) = "cut".toList :: rest) : P.liftsFinal = false := by
  have e3 : (some "cut".toList == some "carried".toList) = false := by kernel_rfl
  unfold Program.liftsFinal
  rw [headOf h, h]
  simp only [List.head?_cons, e3, Bool.false_and, Bool.false_or, List.contains_nil]
theorem makeOf {P : Program} {rest : List (List Char)} (h : behindMainWord (wordsSigns P.initOrder.toList) = "cut".toList :: rest) : P.make = some .cut := by
  have e1 : ("cut".toList == "gc".toList) = false := by kernel_rfl
  have e2 : ("cut".toList == "spec".toList) = false := by kernel_rfl
  have e4 : ("cut".toList == "cut".toList) = true := by kernel_rfl
  unfold Program.make
  rw [h]
  simp only [e1, e2, e4, Bool.or_false, Bool.true_or, if_true, Bool.false_eq_true, if_false]
theorem words : ∃ rest, behindMainWord (wordsSigns Tryz.pinned.checked.prog.initOrder.toList) = "cut".toList :: rest := by
  rw [init]
  exact ⟨(behindMainWord (wordsSigns [Char.ofNat 104, Char.ofNat 97, Char.ofNat 114, Char.ofNat 110, Char.ofNat 101, Char.ofNat 115, Char.ofNat 115, Char.ofNat 32, Char.ofNat 100, Char.ofNat 49, Char.ofNat 56, Char.ofNat 50, Char.ofNat 52, Char.ofNat 100, Char.ofNat 55, Char.ofNat 56, Char.ofNat 54, Char.ofNat 53, Char.ofNat 98, Char.ofNat 52, Char.ofNat 97, Char.ofNat 101, Char.ofNat 97, Char.ofNat 52, Char.ofNat 48, Char.ofNat 97, Char.ofNat 51, Char.ofNat 97, Char.ofNat 57, Char.ofNat 51, Char.ofNat 98, Char.ofNat 50, Char.ofNat 55, Char.ofNat 102, Char.ofNat 48, Char.ofNat 98, Char.ofNat 48, Char.ofNat 48, Char.ofNat 50, Char.ofNat 51, Char.ofNat 98, Char.ofNat 100, Char.ofNat 99, Char.ofNat 102, Char.ofNat 48, Char.ofNat 101, Char.ofNat 56, Char.ofNat 50, Char.ofNat 53, Char.ofNat 57, Char.ofNat 50, Char.ofNat 54, Char.ofNat 52, Char.ofNat 52, Char.ofNat 48, Char.ofNat 102, Char.ofNat 99, Char.ofNat 53, Char.ofNat 54, Char.ofNat 50, Char.ofNat 102, Char.ofNat 50, Char.ofNat 102, Char.ofNat 99, Char.ofNat 56, Char.ofNat 102, Char.ofNat 99, Char.ofNat 56, Char.ofNat 100, Char.ofNat 52, Char.ofNat 53, Char.ofNat 49, Char.ofNat 32, Char.ofNat 99, Char.ofNat 117, Char.ofNat 116, Char.ofNat 32, Char.ofNat 97, Char.ofNat 116, Char.ofNat 32, Char.ofNat 97, Char.ofNat 98, Char.ofNat 117, Char.ofNat 116, Char.ofNat 109, Char.ofNat 101, Char.ofNat 110, Char.ofNat 116, Char.ofNat 47, Char.ofNat 97, Char.ofNat 98, Char.ofNat 117, Char.ofNat 116, Char.ofNat 109, Char.ofNat 101, Char.ofNat 110, Char.ofNat 116, Char.ofNat 108, Char.ofNat 97, Char.ofNat 119, Char.ofNat 52, Char.ofNat 53, Char.ofNat 46, Char.ofNat 83, Char.ofNat 99, Char.ofNat 114, Char.ofNat 105, Char.ofNat 112, Char.ofNat 116, Char.ofNat 80, Char.ofNat 97, Char.ofNat 114, Char.ofNat 115, Char.ofNat 101, Char.ofNat 115, Char.ofNat 32, Char.ofNat 97, Char.ofNat 98, Char.ofNat 117, Char.ofNat 116, Char.ofNat 109, Char.ofNat 101, Char.ofNat 110, Char.ofNat 116, Char.ofNat 47, Char.ofNat 97, Char.ofNat 98, Char.ofNat 117, Char.ofNat 116, Char.ofNat 109, Char.ofNat 101, Char.ofNat 110, Char.ofNat 116, Char.ofNat 108, Char.ofNat 97, Char.ofNat 119, Char.ofNat 52, Char.ofNat 53, Char.ofNat 46, Char.ofNat 83, Char.ofNat 99, Char.ofNat 114, Char.ofNat 105, Char.ofNat 112, Char.ofNat 116, Char.ofNat 80, Char.ofNat 114, Char.ofNat 105, Char.ofNat 110, Char.ofNat 116, Char.ofNat 115])).tail, by kernel_rfl⟩
theorem lays : Tryz.pinned.checked.prog.laysLater = false := by kernel_rfl
theorem bears : Tryz.pinned.checked.prog.bearsReflect = false := by kernel_rfl
theorem door : Tryz.pinned.checked.prog.doorFits [] = true := by kernel_rfl
theorem mayEnter : Tryz.pinned.checked.prog.mayEnter = true := by obtain ⟨r, h⟩ := words; exact mayOf h lays bears door
theorem liftsFinal : Tryz.pinned.checked.prog.liftsFinal = false := by obtain ⟨r, h⟩ := words; exact finalOf h
theorem make : Tryz.pinned.checked.prog.make = some .cut := by obtain ⟨r, h⟩ := words; exact makeOf h
theorem laidOut : laidOutB Tryz.pinned.checked.prog = true := by kernel_rfl
theorem mapsR : mapsRowed Tryz.pinned.checked.prog = true := by kernel_rfl
theorem stops : (Tryz.pinned.checked.prog.stops == []) = true := by kernel_rfl
theorem stopKnobs : (Tryz.pinned.checked.prog.stopKnobs == []) = true := by kernel_rfl
theorem stopsHeard : Tryz.pinned.checked.prog.stopsHeard = true := by kernel_rfl
end Go.Proofs.YtoegojolimaodaaGreatDoor.Facts
end
section
namespace Go.Proofs
open Go.Shelf
def Tryz.lays156_ren : Go.Shelf.Ren := ⟨fun | 156 => 59 | 165 => 83 | 166 => 36 | 169 => 38 | 240 => 70 | 241 => 99 | 276 => 91 | 277 => 110 | n => n, fun | 31 => 45 | 9 => 9 | 3 => 3 | 4 => 4 | 0 => 0 | 20 => 20 | 72 => 71 | 76 => 74 | 70 => 68 | 37 => 69 | 75 => 73 | 127 => 116 | 164 => 132 | 5 => 5 | 80 => 77 | n => n, fun | n => n⟩
theorem Tryz.lays156 : Go.Proofs.Lays.n156 Tryz.prog Tryz.lays156_ren := {
  mixed := by kernel_rfl
  f156 := Tryz.func59.trans (congrArg some (by kernel_rfl))
  f165 := Tryz.func83.trans (congrArg some (by kernel_rfl))
  f166 := Tryz.func36.trans (congrArg some (by kernel_rfl))
  f169 := Tryz.func38.trans (congrArg some (by kernel_rfl))
  f240 := Tryz.func70.trans (congrArg some (by kernel_rfl))
  f241 := Tryz.func99.trans (congrArg some (by kernel_rfl))
  f276 := Tryz.func91.trans (congrArg some (by kernel_rfl))
  f277 := Tryz.func110.trans (congrArg some (by kernel_rfl))
  t0 := Tryz.underlying0
  a0 := Tryz.isAgg0
  z0 := Tryz.sizeOf0
  v0 := Tryz.zeroValue0
  t3 := Tryz.underlying3
  a3 := Tryz.isAgg3
  z3 := Tryz.sizeOf3
  v3 := Tryz.zeroValue3
  t4 := Tryz.underlying4
  a4 := Tryz.isAgg4
  z4 := Tryz.sizeOf4
  v4 := Tryz.zeroValue4
  t9 := Tryz.underlying9
  a9 := Tryz.isAgg9
  z9 := Tryz.sizeOf9
  v9 := Tryz.zeroValue9
  t20 := Tryz.underlying20
  a20 := Tryz.isAgg20
  z20 := Tryz.sizeOf20
  v20 := Tryz.zeroValue20
  t31 := Tryz.underlying45
  a31 := Tryz.isAgg45
  z31 := Tryz.sizeOf45
  v31 := Tryz.zeroValue45
  t37 := Tryz.underlying69
  a37 := Tryz.isAgg69
  z37 := Tryz.sizeOf69
  v37 := Tryz.zeroValue69
  t70 := Tryz.underlying68
  a70 := Tryz.isAgg68
  z70 := Tryz.sizeOf68
  v70 := Tryz.zeroValue68
  t72 := Tryz.underlying71
  a72 := Tryz.isAgg71
  z72 := Tryz.sizeOf71
  v72 := Tryz.zeroValue71
  t75 := Tryz.underlying73
  a75 := Tryz.isAgg73
  z75 := Tryz.sizeOf73
  v75 := Tryz.zeroValue73
  t76 := Tryz.underlying74
  a76 := Tryz.isAgg74
  z76 := Tryz.sizeOf74
  v76 := Tryz.zeroValue74
  t127 := Tryz.underlying116
  a127 := Tryz.isAgg116
  z127 := Tryz.sizeOf116
  v127 := Tryz.zeroValue116
  t164 := Tryz.underlying132
  a164 := Tryz.isAgg132
  z164 := Tryz.sizeOf132
  v164 := Tryz.zeroValue132 }
theorem Tryz.Builder_Extra_156 : Builder.Extra Tryz.prog Tryz.lays156_ren := {
  sizeBuilder := by kernel_rfl
  liesBuilder := by kernel_rfl
  t5 := Tryz.underlying5
  a5 := Tryz.isAgg5
  z5 := Tryz.sizeOf5
  v5 := Tryz.zeroValue5
  infoByte := by kernel_rfl
  cellsByte := by kernel_rfl
  sizeByte := by kernel_rfl
  neB5 := by decide }
open Go.RowKit in
theorem Tryz.strings_Join_none (a : Option Addr) (c : Nat) (sep : ByteArray) (w : World) :
    Calls Tryz.prog 59 #[.slice a 0 c, .string sep] w fun e w' => e = .returned (.string ⟨#[]⟩) ∧ w' = w := Any.strings_Join_none Tryz.lays156 Tryz.Builder_Extra_156 a c sep w
open Go.RowKit in
theorem Tryz.strings_Join (bk o c : Nat) (xs : List ByteArray) (sep : ByteArray) (w : World) (hcells : ∀ (j : Nat) x, xs[j]? = some x → w.cell? ⟨bk, o + j, none⟩ = some (.string x)) (hbk : bk < w.heap.size) (hN : xs.length ≤ 140737488355328) (hcap : xs.length ≤ c) (hlen : (Lib.join (xs.map (·.data.toList)) sep.data.toList).length ≤ 140737488355328) :
    Calls Tryz.prog 59 #[.slice (some ⟨bk, o, none⟩) xs.length c, .string sep] w fun e w' => e = .returned (.string ⟨(Lib.join (xs.map (·.data.toList)) sep.data.toList).toArray⟩) ∧ Below w.heap.size w w' := Any.strings_Join Tryz.lays156 Tryz.Builder_Extra_156 bk o c xs sep w hcells hbk hN hcap hlen
def Tryz.lays103_ren : Go.Shelf.Ren := ⟨fun | 103 => 56 | 210 => 78 | 206 => 97 | n => n, fun | 9 => 9 | 4 => 4 | 24 => 43 | 3 => 3 | n => n, fun | n => n⟩
theorem Tryz.lays103 : Go.Proofs.Lays.n103 Tryz.prog Tryz.lays103_ren := {
  mixed := by kernel_rfl
  f103 := Tryz.func56.trans (congrArg some (by kernel_rfl))
  f206 := Tryz.func97.trans (congrArg some (by kernel_rfl))
  f210 := Tryz.func78.trans (congrArg some (by kernel_rfl))
  t3 := Tryz.underlying3
  a3 := Tryz.isAgg3
  z3 := Tryz.sizeOf3
  v3 := Tryz.zeroValue3
  t4 := Tryz.underlying4
  a4 := Tryz.isAgg4
  z4 := Tryz.sizeOf4
  v4 := Tryz.zeroValue4
  t9 := Tryz.underlying9
  a9 := Tryz.isAgg9
  z9 := Tryz.sizeOf9
  v9 := Tryz.zeroValue9
  t24 := Tryz.underlying43
  a24 := Tryz.isAgg43
  z24 := Tryz.sizeOf43
  v24 := Tryz.zeroValue43 }
open Go.RowKit in
theorem Tryz.strings_CutPrefix (s p : ByteArray) (w : World) :
    Calls Tryz.prog 56 #[.string s, .string p] w fun e w' => e = .returned (.tuple #[.string ⟨(Lib.trimPrefix s.data.toList p.data.toList).toArray⟩, .bool (Lib.hasPrefix s.data.toList p.data.toList)]) ∧ w' = w := Any.strings_CutPrefix Tryz.lays103 s p w
def Tryz.lays104_ren : Go.Shelf.Ren := ⟨fun | 104 => 14 | 211 => 41 | 207 => 73 | n => n, fun | 9 => 9 | 4 => 4 | 24 => 43 | 3 => 3 | n => n, fun | n => n⟩
theorem Tryz.lays104 : Go.Proofs.Lays.n104 Tryz.prog Tryz.lays104_ren := {
  mixed := by kernel_rfl
  f104 := Tryz.func14.trans (congrArg some (by kernel_rfl))
  f207 := Tryz.func73.trans (congrArg some (by kernel_rfl))
  f211 := Tryz.func41.trans (congrArg some (by kernel_rfl))
  t3 := Tryz.underlying3
  a3 := Tryz.isAgg3
  z3 := Tryz.sizeOf3
  v3 := Tryz.zeroValue3
  t4 := Tryz.underlying4
  a4 := Tryz.isAgg4
  z4 := Tryz.sizeOf4
  v4 := Tryz.zeroValue4
  t9 := Tryz.underlying9
  a9 := Tryz.isAgg9
  z9 := Tryz.sizeOf9
  v9 := Tryz.zeroValue9
  t24 := Tryz.underlying43
  a24 := Tryz.isAgg43
  z24 := Tryz.sizeOf43
  v24 := Tryz.zeroValue43 }
open Go.RowKit in
theorem Tryz.strings_CutSuffix (s p : ByteArray) (w : World) (hs : s.size ≤ 9223372036854775807) :
    Calls Tryz.prog 14 #[.string s, .string p] w fun e w' => e = .returned (.tuple #[.string ⟨(Lib.trimSuffix s.data.toList p.data.toList).toArray⟩, .bool (Lib.hasSuffix s.data.toList p.data.toList)]) ∧ w' = w := Any.strings_CutSuffix Tryz.lays104 s p w hs
def Tryz.lays149_ren : Go.Shelf.Ren := ⟨fun | 149 => 111 | 222 => 117 | n => n, fun | 9 => 9 | 5 => 5 | 3 => 3 | 4 => 4 | n => n, fun | n => n⟩
theorem Tryz.lays149 : Go.Proofs.Lays.n149 Tryz.prog Tryz.lays149_ren := {
  mixed := by kernel_rfl
  f149 := Tryz.func111.trans (congrArg some (by kernel_rfl))
  f222 := Tryz.func117.trans (congrArg some (by kernel_rfl))
  t3 := Tryz.underlying3
  a3 := Tryz.isAgg3
  z3 := Tryz.sizeOf3
  v3 := Tryz.zeroValue3
  t4 := Tryz.underlying4
  a4 := Tryz.isAgg4
  z4 := Tryz.sizeOf4
  v4 := Tryz.zeroValue4
  t5 := Tryz.underlying5
  a5 := Tryz.isAgg5
  z5 := Tryz.sizeOf5
  v5 := Tryz.zeroValue5
  t9 := Tryz.underlying9
  a9 := Tryz.isAgg9
  z9 := Tryz.sizeOf9
  v9 := Tryz.zeroValue9 }
open Go.RowKit Go.Lib in
theorem Tryz.strings_LastIndexByte (s : ByteArray) (c : Int) (hs : s.size < 4611686018427387904) (w : World) :
    Calls Tryz.prog 111 #[.string s, .int .u8 c] w fun e w' => e = .returned (.int .i64 (Lib.lastIndexByte s c)) ∧ w' = w := Any.strings_LastIndexByte Tryz.lays149 s c hs w
end Go.Proofs
end
section
set_option linter.unusedVariables false
set_option linter.unusedSimpArgs false
namespace Go.Mdl
open Go Go.Abs
theorem ba_size (s : List UInt8) : (ByteArray.mk s.toArray).size = s.length := by simp [ByteArray.size]
theorem list2 {vs : List Value} (h : vs.length = 2) : ∃ a b, vs = [a, b] := by
  match vs, h with
  | [a, b], _ => exact ⟨a, b, rfl⟩
end Go.Mdl
namespace Go.Proofs.Tryz.Lib
open Go Go.Abs Go.Proofs Go.Mdl
set_option maxRecDepth 100000 in
set_option maxHeartbeats 4000000 in
theorem specCutPrefix (s p : List UInt8) : SpecE Tryz.prog 56 [] [.str s, .str p] [] (.tuple [.str (Lib.trimPrefix s p), .bool (Lib.hasPrefix s p)]) := by
  refine SpecE.ofCalls (by decide +kernel) (fun w ok vs hok hl hr => ?_)
  obtain ⟨v0, v1, rfl⟩ := list2 hl
  have e0 := (hr 0 _ _ rfl rfl).strInv
  have e1 := (hr 1 _ _ rfl rfl).strInv
  subst e0 e1
  refine (Tryz.strings_CutPrefix ⟨s.toArray⟩ ⟨p.toArray⟩ w).mono ?_
  rintro e w' ⟨rfl, rfl⟩
  refine ⟨_, rfl, RowKit.Below.refl _ _, fun ok' => .tuple [_, _] [_, _] rfl (fun i a v ha hv => ?_)⟩
  match i with
  | 0 => simp at ha hv; subst ha; subst hv; exact .str _
  | 1 => simp at ha hv; subst ha; subst hv; exact .bool _
  | _ + 2 => simp at ha
def tb_specCutPrefix : List Blk → List AV → Option (List Blk × AV × Prop)
  | [], [.str s, .str p] => some ([], .tuple [.str (Lib.trimPrefix s p), .bool (Lib.hasPrefix s p)], True)
  | _, _ => none
theorem tb_specCutPrefix_ok : ∀ E args E' res p, tb_specCutPrefix E args = some (E', res, p) → p → SpecE Tryz.prog 56 E args E' res := by
  intro E args E' res p h hp
  unfold tb_specCutPrefix at h
  split at h
  · simp only [Option.some.injEq, Prod.mk.injEq] at h
    obtain ⟨rfl, rfl, rfl⟩ := h
    exact (specCutPrefix _ _)
  · cases h
set_option maxRecDepth 100000 in
set_option maxHeartbeats 4000000 in
theorem specCutSuffix (s p : List UInt8) (hs : s.length ≤ maxLen) : SpecE Tryz.prog 14 [] [.str s, .str p] [] (.tuple [.str (Lib.trimSuffix s p), .bool (Lib.hasSuffix s p)]) := by
  refine SpecE.ofCalls (by decide +kernel) (fun w ok vs hok hl hr => ?_)
  obtain ⟨v0, v1, rfl⟩ := list2 hl
  have e0 := (hr 0 _ _ rfl rfl).strInv
  have e1 := (hr 1 _ _ rfl rfl).strInv
  subst e0 e1
  refine (Tryz.strings_CutSuffix ⟨s.toArray⟩ ⟨p.toArray⟩ w (by rw [ba_size]; exact hs)).mono ?_
  rintro e w' ⟨rfl, rfl⟩
  refine ⟨_, rfl, RowKit.Below.refl _ _, fun ok' => .tuple [_, _] [_, _] rfl (fun i a v ha hv => ?_)⟩
  match i with
  | 0 => simp at ha hv; subst ha; subst hv; exact .str _
  | 1 => simp at ha hv; subst ha; subst hv; exact .bool _
  | _ + 2 => simp at ha
def tb_specCutSuffix : List Blk → List AV → Option (List Blk × AV × Prop)
  | [], [.str s, .str p] => some ([], .tuple [.str (Lib.trimSuffix s p), .bool (Lib.hasSuffix s p)], (s.length ≤ maxLen))
  | _, _ => none
theorem tb_specCutSuffix_ok : ∀ E args E' res p, tb_specCutSuffix E args = some (E', res, p) → p → SpecE Tryz.prog 14 E args E' res := by
  intro E args E' res p h hp
  unfold tb_specCutSuffix at h
  split at h
  · simp only [Option.some.injEq, Prod.mk.injEq] at h
    obtain ⟨rfl, rfl, rfl⟩ := h
    exact (specCutSuffix _ _ hp)
  · cases h
set_option maxRecDepth 100000 in
set_option maxHeartbeats 4000000 in
theorem specLastIndexByte (s : List UInt8) (c : UInt8) (hs : s.length ≤ 1000000) : SpecE Tryz.prog 111 [] [.str s, enc_u8 c] [] (.int .i64 (Lib.lastIndexByte ⟨s.toArray⟩ c.toNat)) := by
  refine SpecE.ofCalls (by decide +kernel) (fun w ok vs hok hl hr => ?_)
  obtain ⟨v0, v1, rfl⟩ := list2 hl
  have e0 := (hr 0 _ _ rfl rfl).strInv
  have e1 := (hr 1 _ _ rfl rfl).intInv
  subst e0 e1
  refine (Tryz.strings_LastIndexByte ⟨s.toArray⟩ c.toNat (by rw [ba_size]; omega) w).mono ?_
  rintro e w' ⟨rfl, rfl⟩
  exact ⟨_, rfl, RowKit.Below.refl _ _, fun ok' => .int _ _⟩
def tb_specLastIndexByte : List Blk → List AV → Option (List Blk × AV × Prop)
  | [], [.str s, a1] => some ([], .int .i64 (Lib.lastIndexByte ⟨s.toArray⟩ (dec_u8 a1).toNat), (s.length ≤ 1000000) ∧ argOK a1 (enc_u8 (dec_u8 a1)))
  | _, _ => none
theorem tb_specLastIndexByte_ok : ∀ E args E' res p, tb_specLastIndexByte E args = some (E', res, p) → p → SpecE Tryz.prog 111 E args E' res := by
  intro E args E' res p h hp
  unfold tb_specLastIndexByte at h
  split at h
  · simp only [Option.some.injEq, Prod.mk.injEq] at h
    obtain ⟨rfl, rfl, rfl⟩ := h
    exact SpecE.args (specLastIndexByte _ _ hp.1) (.cons (argOK.refl _) (.cons hp.2 .nil))
  · cases h
set_option maxRecDepth 100000 in
set_option maxHeartbeats 4000000 in
theorem specJoin (l : List (List UInt8)) (p : List UInt8) (hn : l.length ≤ 1000000) (hj : (Lib.join l p).length ≤ 140737488355328) : SpecE Tryz.prog 59 [] [enc_strs l, .str p] [] (.str (Lib.join l p)) := by
  refine SpecE.ofCalls (by decide +kernel) (fun w ok vs hok hl hr => ?_)
  obtain ⟨v0, v1, rfl⟩ := list2 hl
  have h0 := hr 0 _ _ rfl rfl
  have e1 := (hr 1 _ _ rfl rfl).strInv
  subst e1
  obtain ⟨a, cap, rfl, hcap, hmx, hh⟩ := Rp.listInv h0
  have hmap : ∀ xs : List (List UInt8), (xs.map fun x => ByteArray.mk x.toArray).map (fun x => x.data.toList) = xs := fun xs => by simp [List.map_map, Function.comp_def]
  by_cases hnil : l = []
  · subst hnil
    refine (Tryz.strings_Join_none a cap ⟨p.toArray⟩ w).mono ?_
    rintro e w' ⟨rfl, rfl⟩
    refine ⟨_, rfl, RowKit.Below.refl _ _, fun ok' => ?_⟩
    exact .str []
  rcases hh with hh | ⟨b, off, cv, rfl, hs, h1, h2⟩
  · exact absurd (List.map_eq_nil_iff.1 hh) hnil
  have hc : ∀ (j : Nat) x, (l.map fun x => ByteArray.mk x.toArray)[j]? = some x → w.cell? ⟨b, off + j, none⟩ = some (.string x) := fun j x hx => by
    simp only [List.getElem?_map, Option.map_eq_some_iff] at hx
    obtain ⟨y, hy, rfl⟩ := hx
    have hx : (l.map AV.str)[j]? = some (.str y) := by simp [hy]
    have g1 := h1 j _ 0 _ hx rfl
    have g2 := (h2 j _ 0 _ hx rfl).strInv
    rw [g2] at g1
    simpa using g1.2.1
  have hb : b < w.heap.size := by
    obtain ⟨x, hx⟩ : ∃ x, l[0]? = some x := by cases l with | nil => exact absurd rfl hnil | cons x r => exact ⟨x, rfl⟩
    have g1 := h1 0 (.str x) 0 _ (by simp [hx]) rfl
    exact hok _ _ g1.1
  have key := Tryz.strings_Join b off cap (l.map fun x => ByteArray.mk x.toArray) ⟨p.toArray⟩ w hc hb (by simp; omega) (by simpa using hcap) (by rw [hmap]; exact hj)
  rw [hmap, List.length_map] at key
  have e2 : (l.map AV.str).length = l.length := by simp
  rw [e2]
  refine key.mono ?_
  rintro e w' ⟨rfl, hb⟩
  exact ⟨_, rfl, hb, fun ok' => .str _⟩
def tb_specJoin : List Blk → List AV → Option (List Blk × AV × Prop)
  | [], [a0, .str p] => some ([], .str (Lib.join (dec_strs a0) p), ((dec_strs a0).length ≤ 1000000) ∧ ((Lib.join (dec_strs a0) p).length ≤ 140737488355328) ∧ argOK a0 (enc_strs (dec_strs a0)))
  | _, _ => none
theorem tb_specJoin_ok : ∀ E args E' res p, tb_specJoin E args = some (E', res, p) → p → SpecE Tryz.prog 59 E args E' res := by
  intro E args E' res p h hp
  unfold tb_specJoin at h
  split at h
  · simp only [Option.some.injEq, Prod.mk.injEq] at h
    obtain ⟨rfl, rfl, rfl⟩ := h
    exact SpecE.args (specJoin _ _ hp.1 hp.2.1) (.cons hp.2.2 (.cons (argOK.refl _) .nil))
  · cases h
end Go.Proofs.Tryz.Lib
end
section
set_option linter.unusedVariables false
set_option linter.unusedSimpArgs false
namespace Go.Mdl
open Go Go.Abs
theorem arr_get (s : List UInt8) (j : Nat) : (ByteArray.mk s.toArray).data[j]! = s.getD j 0 := by
  simp [List.getD_eq_getElem?_getD, getElem!_def]
  cases s[j]? <;> rfl
theorem last_up (c : UInt8) (s : List UInt8) : Lib.lastIndexByte ⟨s.toArray⟩ (c.toNat : Int) = lastUp c s := by
  have hnot : ∀ {t : List UInt8} , (∀ j, j < t.length → t.getD j 0 ≠ c) → c ∉ t := by
    intro t h hm
    obtain ⟨j, hj⟩ := List.getElem?_of_mem hm
    have hl := (List.getElem?_eq_some_iff.1 hj).1
    rw [getD_of_lt (d := 0) hl] at hj
    exact h j hl (Option.some.inj hj)
  have hsz : (ByteArray.mk s.toArray).size = s.length := by simp [ByteArray.size]
  rcases Lib.lastIdx_spec ⟨s.toArray⟩ (c.toNat : Int) s.length with ⟨h1, h2⟩ | ⟨i, hi, h1, h2, h3⟩
  · have hn : c ∉ s := hnot (fun j hj e => h2 j hj (by rw [arr_get, e]))
    show Lib.lastIdx _ _ (ByteArray.mk s.toArray).size = _
    rw [hsz, h1]
    rcases Int.lt_or_le (lastUp c s) 0 with h | h
    · have := lastUp_ge c s; omega
    · exact absurd (by rw [(lastUp_spec h).1]; simp) hn
  · show Lib.lastIdx _ _ (ByteArray.mk s.toArray).size = _
    rw [hsz, h1]
    rw [arr_get] at h2
    have hc : s.getD i 0 = c := UInt8.toNat.inj (by omega)
    have hn : c ∉ s.drop (i + 1) := hnot (fun j hj e => by
      rw [getD_drop] at e
      rw [List.length_drop] at hj
      exact h3 (i + 1 + j) (by omega) (by omega) (by rw [arr_get, e]))
    have e : s = s.take i ++ c :: s.drop (i + 1) := by
      have := drop_cons hi
      rw [hc] at this
      rw [← this, List.take_append_drop]
    conv => rhs; rw [e]
    rw [lastUp_at hn, List.length_take]; omega
def litI (r : Int) : Bool := hexI r || decide (r = 58) || decide (r = 46)
theorem lit_rune : RuneB litI litB false := by
  refine ⟨fun c _ => ?_, fun r h => ?_, fun c h => ?_⟩
  · simp only [litI, litB, hexB, u8_lit, Nat.reduceLT]
  · have : hexI r = false := by simp [hexI]; omega
    simp only [litI, this, Bool.false_or, Bool.or_eq_false_iff, decide_eq_false_iff_not]; omega
  · have h1 : hexI c.toNat = false := by simp [hexI]; omega
    have h2 : c ≠ 58 := by rintro rfl; revert h; decide
    have h3 : c ≠ 46 := by rintro rfl; revert h; decide
    simp [litB, hexB, h1, h2, h3]
def inner (s : List UInt8) : List UInt8 := Lib.trimSuffix (Lib.trimPrefix s [91]) [93]
theorem lit_eq (s : List UInt8) : (Lib.hasPrefix s [91] && (inner s).all litB && Lib.hasSuffix (Lib.trimPrefix s [91]) [93] && !decide (inner s = [])) = litS s := by
  have hpre : ∀ {t : List UInt8} {c : UInt8}, Lib.hasPrefix t [c] = true ↔ ∃ r, t = c :: r := by
    intro t c
    simp only [Lib.hasPrefix, List.isPrefixOf_iff_prefix]
    constructor
    · rintro ⟨r, hr⟩; exact ⟨r, by simpa using hr.symm⟩
    · rintro ⟨r, rfl⟩; exact ⟨r, rfl⟩
  have hsuf : ∀ {t : List UInt8} {c : UInt8}, Lib.hasSuffix t [c] = true ↔ ∃ r, t = r ++ [c] := by
    intro t c
    simp only [Lib.hasSuffix, List.isSuffixOf_iff_suffix]
    constructor
    · rintro ⟨r, hr⟩; exact ⟨r, hr.symm⟩
    · rintro ⟨r, rfl⟩; exact ⟨r, rfl⟩
  rw [Bool.eq_iff_iff, lit_form]
  simp only [Bool.and_eq_true, Bool.not_eq_true', decide_eq_false_iff_not]
  constructor
  · rintro ⟨⟨⟨h1, h2⟩, h3⟩, h4⟩
    obtain ⟨r, rfl⟩ := hpre.1 h1
    have e1 : Lib.trimPrefix (91 :: r) [91] = r := by simp only [Lib.trimPrefix, h1, if_true]; rfl
    rw [e1] at h3
    obtain ⟨m, rfl⟩ := hsuf.1 h3
    have e2 : inner (91 :: (m ++ [93])) = m := by simp only [inner, e1, Lib.trimSuffix, h3, if_true]; simp
    rw [e2] at h2 h4
    exact ⟨m, h4, h2, rfl⟩
  · rintro ⟨m, h1, h2, rfl⟩
    have h3 : Lib.hasPrefix (91 :: (m ++ [93])) [91] = true := hpre.2 ⟨_, rfl⟩
    have e1 : Lib.trimPrefix (91 :: (m ++ [93])) [91] = m ++ [93] := by simp only [Lib.trimPrefix, h3, if_true]; rfl
    have h4 : Lib.hasSuffix (m ++ [93]) [93] = true := hsuf.2 ⟨_, rfl⟩
    have e2 : inner (91 :: (m ++ [93])) = m := by simp only [inner, e1, Lib.trimSuffix, h4, if_true]; simp
    rw [e1, e2]
    exact ⟨⟨⟨h3, h2⟩, h4⟩, h1⟩
theorem inner_len (s : List UInt8) : (inner s).length ≤ s.length := by
  have h1 : (Lib.trimPrefix s [91]).length ≤ s.length := by
    unfold Lib.trimPrefix; split
    · rw [List.length_drop]; omega
    · omega
  unfold inner
  generalize Lib.trimPrefix s [91] = t at *
  unfold Lib.trimSuffix; split
  · rw [List.length_take]; omega
  · omega
theorem host_ok {s : List UInt8} (h : hostErr s = 0) : hostName s = cutName s ∧ s ≠ [] ∧ nameS (cutName s) = true ∧ (cutHas s = false ∧ hostPort s = 80 ∨ cutHas s = true ∧ numErr 10 65535 (cutPort s) = 0 ∧ hostPort s = numVal 10 65535 (cutPort s)) := by
  have e1 : hostName s = cutName s := by simp [hostName, h]
  have e2 : hostPort s = if cutHas s = true then numVal 10 65535 (cutPort s) else 80 := by simp [hostPort, h]
  refine ⟨e1, ?_⟩
  unfold hostErr at h
  split at h
  · cases h
  · rename_i h0
    split at h
    · cases h
    · rename_i h1
      refine ⟨h0, by simpa using h1, ?_⟩
      split at h
      · rename_i h2
        exact .inl ⟨h2, by rw [e2, h2]; rfl⟩
      · rename_i h2
        have h2 : cutHas s = true := by simpa using h2
        split at h
        · rename_i h3
          exact .inr ⟨h2, h3, by rw [e2, h2]; rfl⟩
        · split at h <;> cases h
theorem host_bad {s : List UInt8} (h : hostErr s ≠ 0) : hostName s = [] ∧ hostPort s = 0 := by simp [hostName, hostPort, h]
theorem host_name_len (s : List UInt8) : (hostName s).length ≤ s.length := by
  unfold hostName
  split
  · unfold cutName; split
    · rw [List.length_take]; omega
    · omega
  · simp
theorem numVal_range {most : Int} (hm : 0 ≤ most) (s : List UInt8) : 0 ≤ numVal 10 most s ∧ numVal 10 most s ≤ most := by
  unfold numVal
  split
  · rename_i h
    unfold numErr at h
    split at h
    · cases h
    · split at h
      · rename_i h1
        split at h
        · cases h
        · exact ⟨numV_nonneg (by omega) _ h1, by omega⟩
      · cases h
  · omega
theorem host_port_range (s : List UInt8) : 0 ≤ hostPort s ∧ hostPort s ≤ 65535 := by
  have := numVal_range (most := 65535) (by omega) (cutPort s)
  unfold hostPort
  (repeat' split) <;> omega
theorem numV_digs {b : Nat} (hb : b = 10 ∨ b = 16) : ∀ (f n : Nat), n < 2 ^ f → 1 ≤ f → numV b (digsF b f n) = n ∧ (digsF b f n).all (isDig b) = true
  | 0, n, _, h => by omega
  | f + 1, n, hn, _ => by
    have hd : ∀ m, m < b → digB (signN m) = (m : Int) := by
      have h16 : ∀ m, m < 16 → digB (signN m) = (m : Int) := by decide
      intro m hm; exact h16 m (by omega)
    have hdig : ∀ m, m < b → isDig b (signN m) = true := fun m hm => by rw [isDig_iff, hd m hm]; omega
    simp only [digsF]
    split
    · rename_i h
      refine ⟨?_, by simp only [List.all_cons, List.all_nil, hdig n h, Bool.and_true]⟩
      have := numV_cons (b := b) (signN n) []
      rw [this, hd n h]; simp [numV]
    · rename_i h
      have h1 := half_lt (b := b) (n := n) (f := f) (by omega) hn
      have hp : 1 ≤ n / b := (Nat.le_div_iff_mul_le (by omega)).2 (by omega)
      have f1 : 1 ≤ f := by
        cases f with
        | zero => simp at h1; omega
        | succ f => omega
      obtain ⟨i1, i2⟩ := numV_digs hb f (n / b) h1 f1
      have hm := Nat.mod_lt n (show b > 0 by omega)
      refine ⟨?_, by rw [List.all_append, i2]; simp only [List.all_cons, List.all_nil, hdig _ hm, Bool.and_true]⟩
      rw [numV_snoc, i1, hd _ hm]
      have := Nat.div_add_mod n b
      have e : ((n / b : Nat) : Int) * b = ((b * (n / b) : Nat) : Int) := by rw [Nat.mul_comm]; simp
      rw [e]; omega
theorem num_text {p most : Int} (h0 : 0 ≤ p) (h1 : p ≤ most) (h2 : p < 18446744073709551616) : numErr 10 most (textI p) = 0 ∧ numVal 10 most (textI p) = p := by
  have e : textI p = digs 10 p.natAbs := by unfold textI; rw [if_neg (by omega)]
  have hlt : p.natAbs < 2 ^ 70 := by
    have : (18446744073709551616 : Nat) ≤ 2 ^ 70 := by decide
    omega
  obtain ⟨i1, i2⟩ := numV_digs (b := 10) (.inl rfl) 70 p.natAbs hlt (by decide)
  have hpos := digs_pos 10 p.natAbs
  have hne : ¬ digs 10 p.natAbs = [] := fun e => by rw [e] at hpos; simp at hpos
  have i1' : numV 10 (digs 10 p.natAbs) = p := by
    have : numV ((10 : Nat) : Int) (digs 10 p.natAbs) = (p.natAbs : Int) := i1
    rw [show ((10 : Nat) : Int) = 10 from rfl] at this
    rw [this]; omega
  have i2' : (digs 10 p.natAbs).all (isDig 10) = true := i2
  rw [e]
  have := num_good (most := most) hne i2' (by rw [i1']; exact h1)
  exact ⟨this.1, by rw [this.2, i1']⟩
end Go.Mdl
namespace Go.Proofs.Tryz.Host
open Go Go.Abs Go.Proofs Go.Mdl
def T_specLiteral : Tbl := fun g E args => (addT (addT (addT nilT 113 Go.Proofs.Tryz.Host.tb_specHex) 56 Go.Proofs.Tryz.Lib.tb_specCutPrefix) 14 Go.Proofs.Tryz.Lib.tb_specCutSuffix) g E args
theorem T_specLiteral_ok : TblOK Tryz.prog T_specLiteral := (addT_ok (addT_ok (addT_ok nilT_ok (by decide +kernel) Go.Proofs.Tryz.Host.tb_specHex_ok) (by decide +kernel) Go.Proofs.Tryz.Lib.tb_specCutPrefix_ok) (by decide +kernel) Go.Proofs.Tryz.Lib.tb_specCutSuffix_ok)
set_option maxRecDepth 100000 in
set_option maxHeartbeats 4000000 in
theorem specLiteral (s : List UInt8) (hs : s.length ≤ maxLen) : SpecE Tryz.prog 102 [] [.str s] [] (.bool (litS s)) := by
  refine specF0 (C := T_specLiteral) (wr := false) (D := fun _ => []) (U := fun _ => none) (res := [.bool (litS s)]) Tryz.Ty.mixed T_specLiteral_ok Tryz.func102 (nA := 1) (by decide +kernel) rfl (fun _ => rfl) ?_
  simp only [Tryz.f102, bodyOf, rlOf]
  rw [W_V]
  simp (config := {maxSteps := 2000000}) only [T_specLiteral, Go.Proofs.Tryz.Host.tb_specHex, Go.Proofs.Tryz.Lib.tb_specCutPrefix, Go.Proofs.Tryz.Lib.tb_specCutSuffix, go_sem, reduceIte, Nat.reduceEqDiff, Nat.reduceAdd, Nat.reduceMul, Nat.reduceDiv, Nat.reduceMod, Nat.reduceSub, Nat.reduceBEq, Nat.reduceLT, Nat.reduceLeDiff, reduceCtorEq, Int.reduceNeg, Int.reduceEq, String.reduceEq, Int.reduceLT, Int.reduceLE, Int.reduceToNat, Int.reduceAdd, Int.reduceMul, Int.reduceSub]
  (try simp (config := {maxSteps := 2000000}) only [gimp, impB, isT, go_sem, reduceIte, Nat.reduceEqDiff, Nat.reduceAdd, Nat.reduceMul, Nat.reduceDiv, Nat.reduceMod, Nat.reduceSub, Nat.reduceBEq, Nat.reduceLT, Nat.reduceLeDiff, reduceCtorEq, Int.reduceNeg, Int.reduceEq, String.reduceEq, Int.reduceLT, Int.reduceLE, Int.reduceToNat, Int.reduceAdd, Int.reduceMul, Int.reduceSub])
  have hil := inner_len s
  have hpl : (Lib.trimPrefix s [91]).length ≤ s.length := by
    unfold Lib.trimPrefix; split
    · rw [List.length_drop]; omega
    · omega
  refine ⟨by omega, ?_⟩
  rw [← lit_eq]
  rw [show Lib.trimSuffix (Lib.trimPrefix s [91]) [93] = inner s from rfl]
  generalize Lib.hasPrefix s [91] = ok0
  generalize hend : Lib.hasSuffix (Lib.trimPrefix s [91]) [93] = end0
  refine VL_inv (X := Nat × Bool) (fun x => ⟨[(3, .str (inner s)), (4, .bool x.2), (5, .bool end0), (19, .it 320)], [(320, .iter (inner s) x.1)]⟩) (fun x => x.1 ≤ (inner s).length ∧ (x.2 = true → ok0 = true ∧ ((inner s).take x.1).all litB = true) ∧ (x.2 = false → (ok0 && (inner s).all litB) = false)) (fun x => (inner s).length - x.1) (0, ok0) ?_ ?_ ?_
  · simp only [go_sem, go_sem, reduceIte, Nat.reduceEqDiff, Nat.reduceAdd, Nat.reduceMul, Nat.reduceDiv, Nat.reduceMod, Nat.reduceSub, Nat.reduceBEq, Nat.reduceLT, Nat.reduceLeDiff, reduceCtorEq, Int.reduceNeg, Int.reduceEq, String.reduceEq, Int.reduceLT, Int.reduceLE, Int.reduceToNat, Int.reduceAdd, Int.reduceMul, Int.reduceSub]
  · exact ⟨Nat.zero_le _, fun h => ⟨h, by simp⟩, fun h => by simp only at h; rw [h]; rfl⟩
  rintro ⟨x, ok⟩ ⟨hx, h1, h2⟩
  simp only at hx h1 h2
  generalize inner s = u at *
  simp (config := {maxSteps := 2000000}) only [T_specLiteral, Go.Proofs.Tryz.Host.tb_specHex, Go.Proofs.Tryz.Lib.tb_specCutPrefix, Go.Proofs.Tryz.Lib.tb_specCutSuffix, go_sem, reduceIte, Nat.reduceEqDiff, Nat.reduceAdd, Nat.reduceMul, Nat.reduceDiv, Nat.reduceMod, Nat.reduceSub, Nat.reduceBEq, Nat.reduceLT, Nat.reduceLeDiff, reduceCtorEq, Int.reduceNeg, Int.reduceEq, String.reduceEq, Int.reduceLT, Int.reduceLE, Int.reduceToNat, Int.reduceAdd, Int.reduceMul, Int.reduceSub]
  (try simp (config := {maxSteps := 2000000}) only [gimp, impB, isT, go_sem, reduceIte, Nat.reduceEqDiff, Nat.reduceAdd, Nat.reduceMul, Nat.reduceDiv, Nat.reduceMod, Nat.reduceSub, Nat.reduceBEq, Nat.reduceLT, Nat.reduceLeDiff, reduceCtorEq, Int.reduceNeg, Int.reduceEq, String.reduceEq, Int.reduceLT, Int.reduceLE, Int.reduceToNat, Int.reduceAdd, Int.reduceMul, Int.reduceSub])
  refine ⟨fun hlt => ⟨hlt, (x + (runeAt u x).2, ok && litI (runeAt u x).1), ⟨rfl, by rw [if_pos hlt]⟩, ⟨(rune_pos hlt).2.2, fun h => ?_, fun h => ?_⟩, by have := (rune_pos hlt).2; simp only; omega⟩, fun hge => ?_⟩
  · simp only [Bool.and_eq_true] at h
    obtain ⟨h3, h4⟩ := h1 h.1
    exact ⟨h3, (lit_rune.step hlt h4).1 h.2⟩
  · cases ok with
    | false => exact h2 rfl
    | true =>
      obtain ⟨h3, h4⟩ := h1 rfl
      rw [Bool.true_and] at h
      rw [(lit_rune.step hlt h4).2 h, Bool.and_false]
  · have : x = u.length := by omega
    subst this
    rw [List.take_length] at h1
    have : ok = (ok0 && u.all litB) := by
      cases ok with
      | false => exact (h2 rfl).symm
      | true => obtain ⟨h3, h4⟩ := h1 rfl; rw [h3, h4]; rfl
    rw [this]
def tb_specLiteral : List Blk → List AV → Option (List Blk × AV × Prop)
  | [], [.str s] => some ([], .bool (litS s), (s.length ≤ maxLen))
  | _, _ => none
theorem tb_specLiteral_ok : ∀ E args E' res p, tb_specLiteral E args = some (E', res, p) → p → SpecE Tryz.prog 102 E args E' res := by
  intro E args E' res p h hp
  unfold tb_specLiteral at h
  split at h
  · simp only [Option.some.injEq, Prod.mk.injEq] at h
    obtain ⟨rfl, rfl, rfl⟩ := h
    exact (specLiteral _ hp)
  · cases h
def T_specCut : Tbl := fun g E args => (addT (addT nilT 111 Go.Proofs.Tryz.Lib.tb_specLastIndexByte) 112 Go.Proofs.Tryz.Lib.tb_specIndexByte) g E args
theorem T_specCut_ok : TblOK Tryz.prog T_specCut := (addT_ok (addT_ok nilT_ok (by decide +kernel) Go.Proofs.Tryz.Lib.tb_specLastIndexByte_ok) (by decide +kernel) Go.Proofs.Tryz.Lib.tb_specIndexByte_ok)
set_option maxRecDepth 100000 in
set_option maxHeartbeats 4000000 in
theorem specCut (s : List UInt8) (hs : s.length ≤ 1000000) : SpecE Tryz.prog 100 [] [.str s] [] (.tuple [.str (cutName s), .str (cutPort s), .bool (cutHas s)]) := by
  refine specF0 (C := T_specCut) (wr := false) (D := fun _ => []) (U := fun _ => none) (res := [.str (cutName s), .str (cutPort s), .bool (cutHas s)]) Tryz.Ty.mixed T_specCut_ok Tryz.func100 (nA := 1) (by decide +kernel) rfl (fun _ => rfl) ?_
  simp only [Tryz.f100, bodyOf, rlOf]
  rw [W_V]
  simp (config := {maxSteps := 2000000}) only [T_specCut, Go.Proofs.Tryz.Lib.tb_specLastIndexByte, Go.Proofs.Tryz.Lib.tb_specIndexByte, go_sem, reduceIte, Nat.reduceEqDiff, Nat.reduceAdd, Nat.reduceMul, Nat.reduceDiv, Nat.reduceMod, Nat.reduceSub, Nat.reduceBEq, Nat.reduceLT, Nat.reduceLeDiff, reduceCtorEq, Int.reduceNeg, Int.reduceEq, String.reduceEq, Int.reduceLT, Int.reduceLE, Int.reduceToNat, Int.reduceAdd, Int.reduceMul, Int.reduceSub]
  (try simp (config := {maxSteps := 2000000}) only [gimp, impB, isT, go_sem, reduceIte, Nat.reduceEqDiff, Nat.reduceAdd, Nat.reduceMul, Nat.reduceDiv, Nat.reduceMod, Nat.reduceSub, Nat.reduceBEq, Nat.reduceLT, Nat.reduceLeDiff, reduceCtorEq, Int.reduceNeg, Int.reduceEq, String.reduceEq, Int.reduceLT, Int.reduceLE, Int.reduceToNat, Int.reduceAdd, Int.reduceMul, Int.reduceSub])
  have h1 := lastUp_lt 58 s
  have e1 : ((UInt8.ofNat 58).toNat : Int) = ((58 : UInt8).toNat : Int) := rfl
  rw [e1, last_up]
  have e2 : UInt8.ofNat 93 = (93 : UInt8) := rfl
  rw [e2]
  have hno : idxB 93 s ≤ lastUp 58 s → 0 ≤ lastUp 58 s → cutHas s = true := fun h h' => by simp [cutHas, h, h']
  have hyes : lastUp 58 s < idxB 93 s ∨ lastUp 58 s < 0 → cutHas s = false := fun h => by
    simp only [cutHas, decide_eq_false_iff_not]; omega
  refine ⟨⟨hs, rfl⟩, rfl, fun h => ?_, fun h h' => ⟨by omega, by omega, by omega, ?_, ?_, (hno h h').symm⟩⟩
  · have := cut_no (hyes h)
    exact ⟨this.1.symm, this.2.symm, (hyes h).symm⟩
  · simp only [cutName, hno h h', if_true]
  · simp only [cutPort, hno h h', if_true]
    congr 1; omega
def tb_specCut : List Blk → List AV → Option (List Blk × AV × Prop)
  | [], [.str s] => some ([], .tuple [.str (cutName s), .str (cutPort s), .bool (cutHas s)], (s.length ≤ 1000000))
  | _, _ => none
theorem tb_specCut_ok : ∀ E args E' res p, tb_specCut E args = some (E', res, p) → p → SpecE Tryz.prog 100 E args E' res := by
  intro E args E' res p h hp
  unfold tb_specCut at h
  split at h
  · simp only [Option.some.injEq, Prod.mk.injEq] at h
    obtain ⟨rfl, rfl, rfl⟩ := h
    exact (specCut _ hp)
  · cases h
def T_specParse : Tbl := fun g E args => (addT (addT (addT (addT nilT 101 Go.Proofs.Tryz.Host.tb_specRegistered) 102 Go.Proofs.Tryz.Host.tb_specLiteral) 100 Go.Proofs.Tryz.Host.tb_specCut) 18 Go.Proofs.Tryz.Dig.tb_specDec) g E args
theorem T_specParse_ok : TblOK Tryz.prog T_specParse := (addT_ok (addT_ok (addT_ok (addT_ok nilT_ok (by decide +kernel) Go.Proofs.Tryz.Host.tb_specRegistered_ok) (by decide +kernel) Go.Proofs.Tryz.Host.tb_specLiteral_ok) (by decide +kernel) Go.Proofs.Tryz.Host.tb_specCut_ok) (by decide +kernel) Go.Proofs.Tryz.Dig.tb_specDec_ok)
set_option maxRecDepth 100000 in
set_option maxHeartbeats 4000000 in
theorem specParse (s : List UInt8) (hs : s.length ≤ 1000000) : SpecE Tryz.prog 84 [] [.str s] [] (.tuple [.str (hostName s), .int .i64 (hostPort s), .int .i64 (hostErr s)]) := by
  refine specF0 (C := T_specParse) (wr := false) (D := fun _ => []) (U := fun _ => none) (res := [.str (hostName s), .int .i64 (hostPort s), .int .i64 (hostErr s)]) Tryz.Ty.mixed T_specParse_ok Tryz.func84 (nA := 1) (by decide +kernel) rfl (fun _ => rfl) ?_
  simp only [Tryz.f84, bodyOf, rlOf]
  rw [W_V]
  simp (config := {maxSteps := 2000000}) only [T_specParse, Go.Proofs.Tryz.Host.tb_specRegistered, Go.Proofs.Tryz.Host.tb_specLiteral, Go.Proofs.Tryz.Host.tb_specCut, Go.Proofs.Tryz.Dig.tb_specDec, go_sem, reduceIte, Nat.reduceEqDiff, Nat.reduceAdd, Nat.reduceMul, Nat.reduceDiv, Nat.reduceMod, Nat.reduceSub, Nat.reduceBEq, Nat.reduceLT, Nat.reduceLeDiff, reduceCtorEq, Int.reduceNeg, Int.reduceEq, String.reduceEq, Int.reduceLT, Int.reduceLE, Int.reduceToNat, Int.reduceAdd, Int.reduceMul, Int.reduceSub]
  (try simp (config := {maxSteps := 2000000}) only [gimp, impB, isT, go_sem, reduceIte, Nat.reduceEqDiff, Nat.reduceAdd, Nat.reduceMul, Nat.reduceDiv, Nat.reduceMod, Nat.reduceSub, Nat.reduceBEq, Nat.reduceLT, Nat.reduceLeDiff, reduceCtorEq, Int.reduceNeg, Int.reduceEq, String.reduceEq, Int.reduceLT, Int.reduceLE, Int.reduceToNat, Int.reduceAdd, Int.reduceMul, Int.reduceSub])
  have hcl : (cutName s).length ≤ s.length := by
    unfold cutName; split
    · rw [List.length_take]; omega
    · omega
  have hm : (1000000 : Nat) ≤ maxLen := by decide
  have bad : ∀ e : Int, e = hostErr s → e ≠ 0 → [] = hostName s ∧ 0 = hostPort s ∧ e = hostErr s := fun e h h' => by
    have := host_bad (s := s) (by rw [← h]; exact h')
    exact ⟨this.1.symm, this.2.symm, h⟩
  have good : 0 = hostErr s → cutName s = hostName s := fun h => (host_ok h.symm).1.symm
  refine ⟨fun h => bad 2 (by simp [hostErr, h]) (by decide), fun h0 => ⟨hs, fun _ => by omega, fun r1 r2 => bad 3 (by simp [hostErr, h0, nameS, r1, r2]) (by decide), fun hn => ?_⟩⟩
  have hn' : nameS (cutName s) = true := by
    simp only [nameS, Bool.or_eq_true]
    cases h1 : regS (cutName s) with
    | true => exact .inl rfl
    | false => rw [h1] at hn; right; simpa using hn
  refine ⟨fun hc => ?_, fun hc => ⟨fun he => ?_, fun he => ⟨fun h5 => ?_, fun h5 => ?_⟩⟩⟩
  · have e : hostErr s = 0 := by simp [hostErr, h0, hn', hc]
    exact ⟨good e.symm, by simp [hostPort, e, hc], e.symm⟩
  · have e : hostErr s = 0 := by simp [hostErr, h0, hn', hc, he]
    exact ⟨good e.symm, by simp [hostPort, e, hc], by rw [he, e]⟩
  · exact bad _ (by simp [hostErr, h0, hn', hc, h5]) he
  · exact bad 3 (by simp [hostErr, h0, hn', hc, he, h5]) (by decide)
def tb_specParse : List Blk → List AV → Option (List Blk × AV × Prop)
  | [], [.str s] => some ([], .tuple [.str (hostName s), .int .i64 (hostPort s), .int .i64 (hostErr s)], (s.length ≤ 1000000))
  | _, _ => none
theorem tb_specParse_ok : ∀ E args E' res p, tb_specParse E args = some (E', res, p) → p → SpecE Tryz.prog 84 E args E' res := by
  intro E args E' res p h hp
  unfold tb_specParse at h
  split at h
  · simp only [Option.some.injEq, Prod.mk.injEq] at h
    obtain ⟨rfl, rfl, rfl⟩ := h
    exact (specParse _ hp)
  · cases h
def T_specText : Tbl := fun g E args => (addT (addT nilT 103 Go.Proofs.Tryz.Oct.tb_specLower) 19 Go.Proofs.Tryz.Dig.tb_specText) g E args
theorem T_specText_ok : TblOK Tryz.prog T_specText := (addT_ok (addT_ok nilT_ok (by decide +kernel) Go.Proofs.Tryz.Oct.tb_specLower_ok) (by decide +kernel) Go.Proofs.Tryz.Dig.tb_specText_ok)
set_option maxRecDepth 100000 in
set_option maxHeartbeats 4000000 in
theorem specText (n : List UInt8) (p : Int) (hn : n.length ≤ 1000000) (hp : inR .i64 p) : SpecE Tryz.prog 85 [] [.str n, .int .i64 p] [] (.str (hostText n p)) := by
  refine specF0 (C := T_specText) (wr := false) (D := fun _ => []) (U := fun _ => none) (res := [.str (hostText n p)]) Tryz.Ty.mixed T_specText_ok Tryz.func85 (nA := 2) (by decide +kernel) rfl (fun _ => rfl) ?_
  simp only [Tryz.f85, bodyOf, rlOf]
  rw [W_V]
  simp (config := {maxSteps := 2000000}) only [T_specText, Go.Proofs.Tryz.Oct.tb_specLower, Go.Proofs.Tryz.Dig.tb_specText, go_sem, reduceIte, Nat.reduceEqDiff, Nat.reduceAdd, Nat.reduceMul, Nat.reduceDiv, Nat.reduceMod, Nat.reduceSub, Nat.reduceBEq, Nat.reduceLT, Nat.reduceLeDiff, reduceCtorEq, Int.reduceNeg, Int.reduceEq, String.reduceEq, Int.reduceLT, Int.reduceLE, Int.reduceToNat, Int.reduceAdd, Int.reduceMul, Int.reduceSub]
  (try simp (config := {maxSteps := 2000000}) only [gimp, impB, isT, go_sem, reduceIte, Nat.reduceEqDiff, Nat.reduceAdd, Nat.reduceMul, Nat.reduceDiv, Nat.reduceMod, Nat.reduceSub, Nat.reduceBEq, Nat.reduceLT, Nat.reduceLeDiff, reduceCtorEq, Int.reduceNeg, Int.reduceEq, String.reduceEq, Int.reduceLT, Int.reduceLE, Int.reduceToNat, Int.reduceAdd, Int.reduceMul, Int.reduceSub])
  have h1 := textI_len p
  simp only [inR] at hp
  have h2 := lowerS_len n
  have h3 : (lowerS n ++ [58]).length = n.length + 1 := by simp [h2]
  have hm : (1000000 : Nat) ≤ maxLen := by decide
  refine ⟨by omega, fun h => by simp [hostText, h], fun h => ⟨by omega, hp, by omega, by simp [hostText, h]⟩⟩
def tb_specText : List Blk → List AV → Option (List Blk × AV × Prop)
  | [], [.str n, .int .i64 p] => some ([], .str (hostText n p), (n.length ≤ 1000000) ∧ (inR .i64 p))
  | _, _ => none
theorem tb_specText_ok : ∀ E args E' res p, tb_specText E args = some (E', res, p) → p → SpecE Tryz.prog 85 E args E' res := by
  intro E args E' res p h hp
  unfold tb_specText at h
  split at h
  · simp only [Option.some.injEq, Prod.mk.injEq] at h
    obtain ⟨rfl, rfl, rfl⟩ := h
    exact (specText _ _ hp.1 hp.2)
  · cases h
def T_specKey : Tbl := fun g E args => (addT (addT nilT 84 Go.Proofs.Tryz.Host.tb_specParse) 85 Go.Proofs.Tryz.Host.tb_specText) g E args
theorem T_specKey_ok : TblOK Tryz.prog T_specKey := (addT_ok (addT_ok nilT_ok (by decide +kernel) Go.Proofs.Tryz.Host.tb_specParse_ok) (by decide +kernel) Go.Proofs.Tryz.Host.tb_specText_ok)
set_option maxRecDepth 100000 in
set_option maxHeartbeats 4000000 in
theorem specKey (s : List UInt8) (hs : s.length ≤ 1000000) : SpecE Tryz.prog 60 [] [.str s] [] (.tuple [.str (hostKey s), .bool (hostKeyOk s)]) := by
  refine specF0 (C := T_specKey) (wr := false) (D := fun _ => []) (U := fun _ => none) (res := [.str (hostKey s), .bool (hostKeyOk s)]) Tryz.Ty.mixed T_specKey_ok Tryz.func60 (nA := 1) (by decide +kernel) rfl (fun _ => rfl) ?_
  simp only [Tryz.f60, bodyOf, rlOf]
  rw [W_V]
  simp (config := {maxSteps := 2000000}) only [T_specKey, Go.Proofs.Tryz.Host.tb_specParse, Go.Proofs.Tryz.Host.tb_specText, go_sem, reduceIte, Nat.reduceEqDiff, Nat.reduceAdd, Nat.reduceMul, Nat.reduceDiv, Nat.reduceMod, Nat.reduceSub, Nat.reduceBEq, Nat.reduceLT, Nat.reduceLeDiff, reduceCtorEq, Int.reduceNeg, Int.reduceEq, String.reduceEq, Int.reduceLT, Int.reduceLE, Int.reduceToNat, Int.reduceAdd, Int.reduceMul, Int.reduceSub]
  (try simp (config := {maxSteps := 2000000}) only [gimp, impB, isT, go_sem, reduceIte, Nat.reduceEqDiff, Nat.reduceAdd, Nat.reduceMul, Nat.reduceDiv, Nat.reduceMod, Nat.reduceSub, Nat.reduceBEq, Nat.reduceLT, Nat.reduceLeDiff, reduceCtorEq, Int.reduceNeg, Int.reduceEq, String.reduceEq, Int.reduceLT, Int.reduceLE, Int.reduceToNat, Int.reduceAdd, Int.reduceMul, Int.reduceSub])
  have h1 := host_name_len s
  have h2 := host_port_range s
  refine ⟨hs, fun h => by simp [hostKey, hostKeyOk, h], fun h => ⟨⟨by omega, by omega, by omega⟩, by simp [hostKey, hostKeyOk, h]⟩⟩
def tb_specKey : List Blk → List AV → Option (List Blk × AV × Prop)
  | [], [.str s] => some ([], .tuple [.str (hostKey s), .bool (hostKeyOk s)], (s.length ≤ 1000000))
  | _, _ => none
theorem tb_specKey_ok : ∀ E args E' res p, tb_specKey E args = some (E', res, p) → p → SpecE Tryz.prog 60 E args E' res := by
  intro E args E' res p h hp
  unfold tb_specKey at h
  split at h
  · simp only [Option.some.injEq, Prod.mk.injEq] at h
    obtain ⟨rfl, rfl, rfl⟩ := h
    exact (specKey _ hp)
  · cases h
def T_specParseR : Tbl := fun g E args => (addT (addT nilT 104 Go.Proofs.Tryz.Host.tb_specNameR) 23 Go.Proofs.Tryz.Dig.tb_specNumberR) g E args
theorem T_specParseR_ok : TblOK Tryz.prog T_specParseR := (addT_ok (addT_ok nilT_ok (by decide +kernel) Go.Proofs.Tryz.Host.tb_specNameR_ok) (by decide +kernel) Go.Proofs.Tryz.Dig.tb_specNumberR_ok)
set_option maxRecDepth 100000 in
set_option maxHeartbeats 4000000 in
theorem specParseR (s : List UInt8) (hs : s.length ≤ 1000000) : SpecE Tryz.prog 89 [] [.str s] [] (.tuple [.str (hostName s), .int .i64 (hostPort s), .int .i64 (hostErr s)]) := by
  refine specF0 (C := T_specParseR) (wr := false) (D := fun _ => []) (U := fun _ => none) (res := [.str (hostName s), .int .i64 (hostPort s), .int .i64 (hostErr s)]) Tryz.Ty.mixed T_specParseR_ok Tryz.func89 (nA := 1) (by decide +kernel) rfl (fun _ => rfl) ?_
  simp only [Tryz.f89, bodyOf, rlOf]
  rw [W_V]
  simp (config := {maxSteps := 2000000}) only [T_specParseR, Go.Proofs.Tryz.Host.tb_specNameR, Go.Proofs.Tryz.Dig.tb_specNumberR, go_sem, reduceIte, Nat.reduceEqDiff, Nat.reduceAdd, Nat.reduceMul, Nat.reduceDiv, Nat.reduceMod, Nat.reduceSub, Nat.reduceBEq, Nat.reduceLT, Nat.reduceLeDiff, reduceCtorEq, Int.reduceNeg, Int.reduceEq, String.reduceEq, Int.reduceLT, Int.reduceLE, Int.reduceToNat, Int.reduceAdd, Int.reduceMul, Int.reduceSub]
  (try simp (config := {maxSteps := 2000000}) only [gimp, impB, isT, go_sem, reduceIte, Nat.reduceEqDiff, Nat.reduceAdd, Nat.reduceMul, Nat.reduceDiv, Nat.reduceMod, Nat.reduceSub, Nat.reduceBEq, Nat.reduceLT, Nat.reduceLeDiff, reduceCtorEq, Int.reduceNeg, Int.reduceEq, String.reduceEq, Int.reduceLT, Int.reduceLE, Int.reduceToNat, Int.reduceAdd, Int.reduceMul, Int.reduceSub])
  have bad : ∀ e : Int, e = hostErr s → e ≠ 0 → [] = hostName s ∧ 0 = hostPort s ∧ e = hostErr s := fun e h h' => by
    have := host_bad (s := s) (by rw [← h]; exact h')
    exact ⟨this.1.symm, this.2.symm, h⟩
  refine ⟨fun h => bad 2 (by simp [hostErr, h]) (by decide), fun h0 => ⟨hs, fun hz => bad 3 (host_none h0 (by omega)).symm (by decide), fun hz => ?_⟩⟩
  have hle := (name_take (s := s) (by omega)).1
  refine ⟨fun hw => ?_, fun hw => ⟨by omega, fun hc => bad 3 (host_sign (by omega) hc).symm (by decide), fun hc => ⟨by omega, by omega, by rw [List.length_drop]; omega, ?_⟩⟩⟩
  · obtain ⟨g1, g2, g3⟩ := host_whole h0 (by omega)
    exact ⟨by simp [hostName, g1, g3], by simp [hostPort, g1, g2], g1.symm⟩
  · rcases host_port (s := s) (by omega) (by omega) hc with ⟨g1, g2, g3, g4⟩ | ⟨g1, g2⟩
    · rw [← g4]
      refine ⟨fun h5 => bad _ (by simp [hostErr, h0, g2, g1, h5]) (by omega), fun h5 => ⟨fun he => bad 3 (by simp [hostErr, h0, g2, g1, he, h5]) (by decide), fun he => ⟨by omega, ?_⟩⟩⟩
      have e : hostErr s = 0 := by simp [hostErr, h0, g2, g1, he]
      exact ⟨by rw [← g3, (host_ok e).1], by simp [hostPort, e, g1], e.symm⟩
    · rw [g2]
      exact ⟨fun h => by omega, fun _ => ⟨fun _ => bad 3 g1.symm (by decide), fun h => by omega⟩⟩
def tb_specParseR : List Blk → List AV → Option (List Blk × AV × Prop)
  | [], [.str s] => some ([], .tuple [.str (hostName s), .int .i64 (hostPort s), .int .i64 (hostErr s)], (s.length ≤ 1000000))
  | _, _ => none
theorem tb_specParseR_ok : ∀ E args E' res p, tb_specParseR E args = some (E', res, p) → p → SpecE Tryz.prog 89 E args E' res := by
  intro E args E' res p h hp
  unfold tb_specParseR at h
  split at h
  · simp only [Option.some.injEq, Prod.mk.injEq] at h
    obtain ⟨rfl, rfl, rfl⟩ := h
    exact (specParseR _ hp)
  · cases h
def T_specTextR : Tbl := fun g E args => (addT (addT nilT 105 Go.Proofs.Tryz.Oct.tb_specLowerR) 24 Go.Proofs.Tryz.Dig.tb_specTextR) g E args
theorem T_specTextR_ok : TblOK Tryz.prog T_specTextR := (addT_ok (addT_ok nilT_ok (by decide +kernel) Go.Proofs.Tryz.Oct.tb_specLowerR_ok) (by decide +kernel) Go.Proofs.Tryz.Dig.tb_specTextR_ok)
set_option maxRecDepth 100000 in
set_option maxHeartbeats 4000000 in
theorem specTextR (n : List UInt8) (p : Int) (hn : n.length ≤ 1000000) (hp : inR .i64 p) : SpecE Tryz.prog 90 [] [.str n, .int .i64 p] [] (.str (hostText n p)) := by
  refine specF0 (C := T_specTextR) (wr := false) (D := fun _ => []) (U := fun _ => none) (res := [.str (hostText n p)]) Tryz.Ty.mixed T_specTextR_ok Tryz.func90 (nA := 2) (by decide +kernel) rfl (fun _ => rfl) ?_
  simp only [Tryz.f90, bodyOf, rlOf]
  rw [W_V]
  simp (config := {maxSteps := 2000000}) only [T_specTextR, Go.Proofs.Tryz.Oct.tb_specLowerR, Go.Proofs.Tryz.Dig.tb_specTextR, go_sem, reduceIte, Nat.reduceEqDiff, Nat.reduceAdd, Nat.reduceMul, Nat.reduceDiv, Nat.reduceMod, Nat.reduceSub, Nat.reduceBEq, Nat.reduceLT, Nat.reduceLeDiff, reduceCtorEq, Int.reduceNeg, Int.reduceEq, String.reduceEq, Int.reduceLT, Int.reduceLE, Int.reduceToNat, Int.reduceAdd, Int.reduceMul, Int.reduceSub]
  (try simp (config := {maxSteps := 2000000}) only [gimp, impB, isT, go_sem, reduceIte, Nat.reduceEqDiff, Nat.reduceAdd, Nat.reduceMul, Nat.reduceDiv, Nat.reduceMod, Nat.reduceSub, Nat.reduceBEq, Nat.reduceLT, Nat.reduceLeDiff, reduceCtorEq, Int.reduceNeg, Int.reduceEq, String.reduceEq, Int.reduceLT, Int.reduceLE, Int.reduceToNat, Int.reduceAdd, Int.reduceMul, Int.reduceSub])
  have h1 := textI_len p
  simp only [inR] at hp
  have h2 := lowerS_len n
  have h3 : (lowerS n ++ [58]).length = n.length + 1 := by simp [h2]
  refine ⟨by omega, fun h => ⟨by omega, hp, by omega, by simp [hostText, h]⟩, fun h => by simp [hostText, h]⟩
def tb_specTextR : List Blk → List AV → Option (List Blk × AV × Prop)
  | [], [.str n, .int .i64 p] => some ([], .str (hostText n p), (n.length ≤ 1000000) ∧ (inR .i64 p))
  | _, _ => none
theorem tb_specTextR_ok : ∀ E args E' res p, tb_specTextR E args = some (E', res, p) → p → SpecE Tryz.prog 90 E args E' res := by
  intro E args E' res p h hp
  unfold tb_specTextR at h
  split at h
  · simp only [Option.some.injEq, Prod.mk.injEq] at h
    obtain ⟨rfl, rfl, rfl⟩ := h
    exact (specTextR _ _ hp.1 hp.2)
  · cases h
def T_specKeyR : Tbl := fun g E args => (addT (addT nilT 89 Go.Proofs.Tryz.Host.tb_specParseR) 90 Go.Proofs.Tryz.Host.tb_specTextR) g E args
theorem T_specKeyR_ok : TblOK Tryz.prog T_specKeyR := (addT_ok (addT_ok nilT_ok (by decide +kernel) Go.Proofs.Tryz.Host.tb_specParseR_ok) (by decide +kernel) Go.Proofs.Tryz.Host.tb_specTextR_ok)
set_option maxRecDepth 100000 in
set_option maxHeartbeats 4000000 in
theorem specKeyR (s : List UInt8) (hs : s.length ≤ 1000000) : SpecE Tryz.prog 66 [] [.str s] [] (.tuple [.str (hostKey s), .bool (hostKeyOk s)]) := by
  refine specF0 (C := T_specKeyR) (wr := false) (D := fun _ => []) (U := fun _ => none) (res := [.str (hostKey s), .bool (hostKeyOk s)]) Tryz.Ty.mixed T_specKeyR_ok Tryz.func66 (nA := 1) (by decide +kernel) rfl (fun _ => rfl) ?_
  simp only [Tryz.f66, bodyOf, rlOf]
  rw [W_V]
  simp (config := {maxSteps := 2000000}) only [T_specKeyR, Go.Proofs.Tryz.Host.tb_specParseR, Go.Proofs.Tryz.Host.tb_specTextR, go_sem, reduceIte, Nat.reduceEqDiff, Nat.reduceAdd, Nat.reduceMul, Nat.reduceDiv, Nat.reduceMod, Nat.reduceSub, Nat.reduceBEq, Nat.reduceLT, Nat.reduceLeDiff, reduceCtorEq, Int.reduceNeg, Int.reduceEq, String.reduceEq, Int.reduceLT, Int.reduceLE, Int.reduceToNat, Int.reduceAdd, Int.reduceMul, Int.reduceSub]
  (try simp (config := {maxSteps := 2000000}) only [gimp, impB, isT, go_sem, reduceIte, Nat.reduceEqDiff, Nat.reduceAdd, Nat.reduceMul, Nat.reduceDiv, Nat.reduceMod, Nat.reduceSub, Nat.reduceBEq, Nat.reduceLT, Nat.reduceLeDiff, reduceCtorEq, Int.reduceNeg, Int.reduceEq, String.reduceEq, Int.reduceLT, Int.reduceLE, Int.reduceToNat, Int.reduceAdd, Int.reduceMul, Int.reduceSub])
  have h1 := host_name_len s
  have h2 := host_port_range s
  refine ⟨hs, fun h => by simp [hostKey, hostKeyOk, h], fun h => ⟨⟨by omega, by omega, by omega⟩, by simp [hostKey, hostKeyOk, h]⟩⟩
def tb_specKeyR : List Blk → List AV → Option (List Blk × AV × Prop)
  | [], [.str s] => some ([], .tuple [.str (hostKey s), .bool (hostKeyOk s)], (s.length ≤ 1000000))
  | _, _ => none
theorem tb_specKeyR_ok : ∀ E args E' res p, tb_specKeyR E args = some (E', res, p) → p → SpecE Tryz.prog 66 E args E' res := by
  intro E args E' res p h hp
  unfold tb_specKeyR at h
  split at h
  · simp only [Option.some.injEq, Prod.mk.injEq] at h
    obtain ⟨rfl, rfl, rfl⟩ := h
    exact (specKeyR _ hp)
  · cases h
end Go.Proofs.Tryz.Host
end
section
set_option linter.unusedVariables false
set_option linter.unusedSimpArgs false
namespace Go.Mdl
open Go Go.Abs
def cfgLo : List Int := [0, 0, 0, 0, 1, 1, 0, 0, 1, 1, 0, 16, 1, 3, 0, 0]
def cfgHi : List Int := [1, 1, 1, 1, 65536, 65536, 100, 1073741824, 16, 16, 1, 65536, 1000, 4096, 1048576, 1]
def cfgL (n0 n1 n2 n3 n4 n5 n6 n7 n8 n9 n10 n11 n12 n13 n14 n15 : Int) : List Int := [n0, n1, n2, n3, n4, n5, n6, n7, n8, n9, n10, n11, n12, n13, n14, n15]
def cfgAt (l : List Int) (i : Nat) : Bool := decide (cfgLo.getD i 0 ≤ l.getD i 0) && decide (l.getD i 0 ≤ cfgHi.getD i 0)
def cfgOk (l : List Int) : Bool := (List.range 16).all (cfgAt l)
def cfgErr (nm au : List UInt8) (l : List Int) : Int :=
  if tokenS nm = false ∨ 100 < nm.length then 6
  else if au ≠ [] ∧ (hostKey au ≠ au ∨ 200 < au.length) then 13
  else if cfgOk l = true then 0 else 5
def cfgAu (au : List UInt8) : List UInt8 := if au = [] then [45] else au
def cfgText (nm au : List UInt8) (l : List Int) : List UInt8 :=
  if cfgErr nm au l = 0 then nm ++ 32 :: cfgAu au ++ l.flatMap (fun n => 32 :: textI n) else []
theorem cfgLo_len : cfgLo.length = 16 := rfl
theorem cfgHi_len : cfgHi.length = 16 := rfl
theorem cfgL_len (n0 n1 n2 n3 n4 n5 n6 n7 n8 n9 n10 n11 n12 n13 n14 n15 : Int) : (cfgL n0 n1 n2 n3 n4 n5 n6 n7 n8 n9 n10 n11 n12 n13 n14 n15).length = 16 := rfl
theorem cfgErr_name {nm au : List UInt8} {l : List Int} (h : tokenS nm = false ∨ (100 : Int) < nm.length) : cfgErr nm au l = 6 := by
  rw [cfgErr, if_pos]
  rcases h with h | h
  · exact .inl h
  · exact .inr (by omega)
theorem cfgErr_host {nm au : List UInt8} {l : List Int} (h1 : tokenS nm = true) (h2 : (nm.length : Int) ≤ 100) (h3 : ¬au = []) (h4 : ¬hostKey au = au ∨ (200 : Int) < (hostKey au).length) : cfgErr nm au l = 13 := by
  rw [cfgErr, if_neg (by rw [h1]; rintro (h | h); cases h; omega), if_pos]
  refine ⟨h3, ?_⟩
  by_cases h : hostKey au = au
  · rw [h] at h4; simp only [not_true_eq_false, false_or] at h4; exact .inr (by omega)
  · exact .inl h
theorem cfgErr_num {nm au : List UInt8} {l : List Int} (h1 : tokenS nm = true) (h2 : (nm.length : Int) ≤ 100) (h3 : (!decide (au = []) && (!decide (hostKey au = au) || decide ((200 : Int) < (hostKey au).length))) = false) : cfgErr nm au l = if cfgOk l = true then 0 else 5 := by
  rw [cfgErr, if_neg (by rw [h1]; rintro (h | h); cases h; omega), if_neg]
  rintro ⟨g1, g2⟩
  simp only [g1, decide_false, Bool.not_false, Bool.true_and, Bool.or_eq_false_iff, Bool.not_eq_false', decide_eq_true_eq, decide_eq_false_iff_not] at h3
  rcases g2 with g | g
  · exact g h3.1
  · rw [h3.1] at h3; omega
theorem cfgOk_out {l : List Int} (i : Nat) (hi : i < 16) (h : l.getD i 0 < cfgLo.getD i 0 ∨ cfgHi.getD i 0 < l.getD i 0) : (5 : Int) = if cfgOk l = true then 0 else 5 := by
  rw [if_neg]
  intro h2
  have := List.all_eq_true.1 h2 i (List.mem_range.2 hi)
  simp only [cfgAt, Bool.and_eq_true, decide_eq_true_eq] at this
  omega
theorem cfgOk_in {l : List Int} (h : ∀ i, i < 16 → cfgLo.getD i 0 ≤ l.getD i 0 ∧ l.getD i 0 ≤ cfgHi.getD i 0) : (0 : Int) = if cfgOk l = true then 0 else 5 := by
  rw [if_pos]
  rw [cfgOk, List.all_eq_true]
  intro i hi
  have := h i (List.mem_range.1 hi)
  simp only [cfgAt, Bool.and_eq_true, decide_eq_true_eq]
  exact this
theorem cfgOk_get {l : List Int} (h : cfgOk l = true) (i : Nat) (hi : i < 16) : cfgLo.getD i 0 ≤ l.getD i 0 ∧ l.getD i 0 ≤ cfgHi.getD i 0 := by
  have := List.all_eq_true.1 h i (List.mem_range.2 hi)
  simpa only [cfgAt, Bool.and_eq_true, decide_eq_true_eq] using this
theorem cfg_next {l : List Int} {k : Nat} (h : ∀ i : Nat, (i : Int) < (k : Int) → cfgLo.getD i 0 ≤ l.getD i 0 ∧ l.getD i 0 ≤ cfgHi.getD i 0) (hk : cfgLo.getD k 0 ≤ l.getD k 0 ∧ l.getD k 0 ≤ cfgHi.getD k 0) :
    ∀ i : Nat, (i : Int) < ((k + 1 : Nat) : Int) → cfgLo.getD i 0 ≤ l.getD i 0 ∧ l.getD i 0 ≤ cfgHi.getD i 0 := by
  intro i hi
  by_cases e : i = k
  · subst e; exact hk
  · exact h i (by omega)
theorem cfgErr_ok {nm au : List UInt8} {l : List Int} (h : cfgErr nm au l = 0) : nm.length ≤ 100 ∧ au.length ≤ 200 ∧ cfgOk l = true := by
  unfold cfgErr at h
  split at h
  · simp at h
  · rename_i h1
    split at h
    · simp at h
    · rename_i h2
      split at h
      · rename_i h3
        refine ⟨by simp only [not_or] at h1; omega, ?_, h3⟩
        by_cases e : au = []
        · subst e; simp
        · simp only [not_and, not_or] at h2
          have := (h2 e).2
          omega
      · simp at h
theorem cfg_range {l : List Int} (h : cfgOk l = true) (i : Nat) (hi : i < 16) : inR .i64 (l.getD i 0) := by
  have h1 := cfgOk_get h i hi
  have h2 : ∀ i, i < 16 → -10 ≤ cfgLo.getD i 0 ∧ cfgHi.getD i 0 ≤ 1073741824 := by decide
  have := h2 i hi
  simp only [inR]
  omega
theorem cfg_join (a b : List UInt8) (l : List Int) : Lib.join (a :: b :: l.map textI) [32] = a ++ 32 :: b ++ l.flatMap (fun n => 32 :: textI n) := by
  rw [Lib.join_cons, Lib.joinTail, List.map_cons, List.flatten_cons, List.map_map]
  simp [List.flatMap_def, Function.comp_def]
theorem flat_text_len (l : List Int) : (l.flatMap (fun n => 32 :: textI n)).length ≤ 72 * l.length := by
  induction l with
  | nil => simp
  | cons a r ih =>
    have := textI_len a
    simp only [List.flatMap_cons, List.length_append, List.length_cons]
    omega
theorem cfgAu_len (au : List UInt8) : (cfgAu au).length ≤ au.length + 1 := by unfold cfgAu; split <;> simp
theorem flat_snoc (l : List Int) (k : Nat) (h : k < l.length) : (l.take (k + 1)).flatMap (fun n => 32 :: textI n) = (l.take k).flatMap (fun n => 32 :: textI n) ++ 32 :: textI (l.getD k 0) := by
  rw [take_succ_getD 0 h, List.flatMap_append]; simp
theorem map_text_snoc (l : List Int) (k : Nat) (h : k < l.length) : (l.take (k + 1)).map textI = (l.take k).map textI ++ [textI (l.getD k 0)] := by
  rw [take_succ_getD 0 h, List.map_append]; simp
def cfgW (nm au : List UInt8) (l : List Int) (k : Nat) : List (List UInt8) := nm :: cfgAu au :: (l.take k).map textI
theorem cfgW_zero (nm au : List UInt8) (l : List Int) : cfgW nm au l 0 = [nm, cfgAu au] := rfl
theorem cfgW_next (nm au : List UInt8) (l : List Int) (k : Nat) (h : k < l.length) : cfgW nm au l (k + 1) = cfgW nm au l k ++ [textI (l.getD k 0)] := by
  rw [cfgW, cfgW, map_text_snoc l k h]; rfl
theorem cfgW_len (nm au : List UInt8) (l : List Int) (k : Nat) (h : k ≤ l.length) : (cfgW nm au l k).length = k + 2 := by
  simp only [cfgW, List.length_cons, List.length_map, List.length_take]; omega
theorem cfgW_step (nm au : List UInt8) {l : List Int} (hl : l.length = 16) (k : Nat) (h : k < 16) :
    ((cfgW nm au l k).length ≤ 9223372036854775806 ∧ ((cfgW nm au l k).length + 1) * 16 ≤ 140737488355328) ∧ (cfgW nm au l k).length + 1 = (cfgW nm au l (k + 1)).length ∧
      (cfgW nm au l k).map AV.str ++ [.str (textI (l.getD k 0))] = (cfgW nm au l (k + 1)).map .str := by
  have h1 := cfgW_len nm au l k (by omega)
  have h2 := cfgW_len nm au l (k + 1) (by omega)
  refine ⟨⟨by omega, by omega⟩, by omega, ?_⟩
  rw [cfgW_next nm au l k (by omega), List.map_append]; rfl
theorem cfgW_all (nm au : List UInt8) (l : List Int) : Lib.join (cfgW nm au l l.length) [32] = nm ++ 32 :: cfgAu au ++ l.flatMap (fun n => 32 :: textI n) := by
  rw [cfgW, List.take_length, cfg_join]
end Go.Mdl
end
section
set_option linter.unusedVariables false
set_option linter.unusedSimpArgs false
namespace Go.Mdl
open Go Go.Abs
def cfgMax : Nat → Int := fun _ => 1073741824
def cfgTo : Nat → Int := fun i => cfgHi.getD i 0
def cfgNm (s : List UInt8) : List UInt8 := (splitB 32 s).getD 0 []
def cfgW1 (s : List UInt8) : List UInt8 := (splitB 32 s).getD 1 []
def cfgA1 (s : List UInt8) : List UInt8 := if cfgW1 s = [45] then [] else cfgW1 s
def cfgN (M : Nat → Int) (s : List UInt8) (i : Nat) : Int := numVal 10 (M i) ((splitB 32 s).getD (i + 2) [])
def cfgNs (M : Nat → Int) (s : List UInt8) : List Int := cfgL (cfgN M s 0) (cfgN M s 1) (cfgN M s 2) (cfgN M s 3) (cfgN M s 4) (cfgN M s 5) (cfgN M s 6) (cfgN M s 7) (cfgN M s 8) (cfgN M s 9) (cfgN M s 10) (cfgN M s 11) (cfgN M s 12) (cfgN M s 13) (cfgN M s 14) (cfgN M s 15)
def cfgHas (M : Nat → Int) (s : List UInt8) : Bool := decide ((splitB 32 s).length = 18) && (!decide (s = []) && decide (cfgText (cfgNm s) (cfgA1 s) (cfgNs M s) = s))
def cfgRN (s : List UInt8) : List UInt8 := if cfgHas cfgTo s = true then cfgNm s else []
def cfgRA (s : List UInt8) : List UInt8 := if cfgHas cfgTo s = true then cfgA1 s else []
def cfgRI (s : List UInt8) (i : Nat) : Int := if cfgHas cfgTo s = true then cfgN cfgTo s i else 0
def cfgRE (s : List UInt8) : Int := if cfgHas cfgTo s = true then 0 else 3
theorem digs_free : ∀ (f n : Nat), ∀ x ∈ digsF 10 f n, x ≠ 32
  | 0, n, x, h => by simp [digsF] at h
  | f + 1, n, x, h => by
    have sg : ∀ k, k < 16 → signN k ≠ 32 := by decide
    simp only [digsF] at h
    split at h
    · simp at h; subst h; exact sg n (by omega)
    · rcases List.mem_append.1 h with h | h
      · exact digs_free f _ x h
      · simp at h; subst h; exact sg _ (by omega)
theorem text_free (n : Int) : ∀ x ∈ textI n, x ≠ 32 := by
  intro x hx
  unfold textI at hx
  split at hx
  · rcases List.mem_cons.1 hx with rfl | hx
    · decide
    · exact digs_free _ _ x hx
  · exact digs_free _ _ x hx
theorem splitB_flat : ∀ (l : List Int) (cur : List UInt8), (∀ x ∈ cur, x ≠ 32) → splitB 32 (cur ++ l.flatMap (fun n => 32 :: textI n)) = cur :: l.map textI
  | [], cur, h => by simp [splitB_no h]
  | n :: l, cur, h => by
    rw [List.flatMap_cons, List.cons_append, splitB_app h, splitB_flat l _ (text_free n)]
    rfl
theorem cfgNs_len (M : Nat → Int) (s : List UInt8) : (cfgNs M s).length = 16 := rfl
theorem cfgNs_get (M : Nat → Int) (s : List UInt8) (i : Nat) (h : i < 16) : (cfgNs M s).getD i 0 = cfgN M s i := by
  have : i = 0 ∨ i = 1 ∨ i = 2 ∨ i = 3 ∨ i = 4 ∨ i = 5 ∨ i = 6 ∨ i = 7 ∨ i = 8 ∨ i = 9 ∨ i = 10 ∨ i = 11 ∨ i = 12 ∨ i = 13 ∨ i = 14 ∨ i = 15 := by omega
  rcases this with rfl | rfl | rfl | rfl | rfl | rfl | rfl | rfl | rfl | rfl | rfl | rfl | rfl | rfl | rfl | rfl <;> rfl
theorem getD_free {c : UInt8} (s : List UInt8) (i : Nat) : ∀ x ∈ (splitB c s).getD i [], x ≠ c := by
  rw [List.getD_eq_getElem?_getD]
  cases h : (splitB c s)[i]? with
  | none => simp
  | some w => exact splitB_free (List.mem_of_getElem? h)
theorem getD_split_len (c : UInt8) (s : List UInt8) (i : Nat) : ((splitB c s).getD i []).length ≤ s.length := by
  rw [List.getD_eq_getElem?_getD]
  cases h : (splitB c s)[i]? with
  | none => simp
  | some w => exact splitB_mem_len (List.mem_of_getElem? h)
theorem cfg_words {M : Nat → Int} {s : List UInt8} (h : cfgHas M s = true) : cfgErr (cfgNm s) (cfgA1 s) (cfgNs M s) = 0 ∧ ∀ i, i < 16 → (splitB 32 s).getD (i + 2) [] = textI (cfgN M s i) := by
  simp only [cfgHas, Bool.and_eq_true, decide_eq_true_eq, Bool.not_eq_true', decide_eq_false_iff_not] at h
  obtain ⟨h1, h2, h3⟩ := h
  by_cases he : cfgErr (cfgNm s) (cfgA1 s) (cfgNs M s) = 0
  · refine ⟨he, fun i hi => ?_⟩
    rw [cfgText, if_pos he] at h3
    have hn : ∀ x ∈ cfgNm s, x ≠ 32 := getD_free s 0
    have ha : ∀ x ∈ cfgAu (cfgA1 s), x ≠ 32 := by
      unfold cfgAu cfgA1
      have := getD_free (c := 32) s 1
      split
      · decide
      · split
        · simp
        · exact this
    have e : splitB 32 s = cfgNm s :: cfgAu (cfgA1 s) :: (cfgNs M s).map textI := by
      conv => lhs; rw [← h3]
      rw [List.append_assoc, List.cons_append, splitB_app hn, splitB_flat _ _ ha]
    have e2 : (splitB 32 s).getD (i + 2) [] = ((cfgNs M s).map textI).getD i [] := by rw [e]; rfl
    rw [e2, ← cfgNs_get M s i hi, List.getD_eq_getElem?_getD, List.getElem?_map, List.getD_eq_getElem?_getD, List.getElem?_eq_getElem (by rw [cfgNs_len]; exact hi)]
    rfl
  · rw [cfgText, if_neg he] at h3
    exact absurd h3.symm h2
theorem cfg_hi : ∀ i, i < 16 → 0 ≤ cfgLo.getD i 0 ∧ cfgHi.getD i 0 ≤ 1073741824 := by decide
theorem cfg_other {M M' : Nat → Int} {s : List UInt8} (hM : ∀ i, i < 16 → cfgHi.getD i 0 ≤ M' i) (h : cfgHas M s = true) : cfgNs M' s = cfgNs M s ∧ ∀ i, i < 16 → cfgN M' s i = cfgN M s i := by
  obtain ⟨h1, h2⟩ := cfg_words h
  have hok := (cfgErr_ok h1).2.2
  have key : ∀ i, i < 16 → cfgN M' s i = cfgN M s i := fun i hi => by
    have h3 := cfgOk_get hok i hi
    rw [cfgNs_get M s i hi] at h3
    have h4 := cfg_hi i hi
    have h5 := hM i hi
    show numVal 10 (M' i) _ = _
    rw [h2 i hi, (num_text (p := cfgN M s i) (most := M' i) (by omega) (by omega) (by omega)).2]
  refine ⟨?_, key⟩
  simp only [cfgNs]
  rw [key 0 (by decide), key 1 (by decide), key 2 (by decide), key 3 (by decide), key 4 (by decide), key 5 (by decide), key 6 (by decide), key 7 (by decide), key 8 (by decide), key 9 (by decide), key 10 (by decide), key 11 (by decide), key 12 (by decide), key 13 (by decide), key 14 (by decide), key 15 (by decide)]
theorem cfgHas_eq (s : List UInt8) : cfgHas cfgMax s = cfgHas cfgTo s := by
  have one : ∀ M M' : Nat → Int, (∀ i, i < 16 → cfgHi.getD i 0 ≤ M' i) → cfgHas M s = true → cfgHas M' s = true := fun M M' hM h => by
    have := (cfg_other hM h).1
    simp only [cfgHas, this] at h ⊢
    exact h
  have h1 := one cfgTo cfgMax (fun i hi => (cfg_hi i hi).2)
  have h2 := one cfgMax cfgTo (fun i hi => Int.le_refl _)
  cases ha : cfgHas cfgMax s <;> cases hb : cfgHas cfgTo s
  · rfl
  · rw [h1 hb] at ha; cases ha
  · rw [h2 ha] at hb; cases hb
  · rfl
theorem cfgN_eq {s : List UInt8} (h : cfgHas cfgTo s = true) (i : Nat) (hi : i < 16) : cfgN cfgMax s i = cfgN cfgTo s i := (cfg_other (fun i hi => (cfg_hi i hi).2) h).2 i hi
def cfgK (s : List UInt8) (k i : Int) : Int := if i < k then cfgN cfgTo s i.toNat else 0
end Go.Mdl
end
section
set_option linter.unusedVariables false
set_option linter.unusedSimpArgs false
namespace Go.Mdl
open Go Go.Abs
def prL (s : List UInt8) : List (List UInt8) := splitB 10 (Lib.trimSuffix s [10])
def prW (s : List UInt8) (i : Nat) : List UInt8 := (prL s).getD i []
def prNowN (s : List UInt8) : Int := numVal 10 1099511627776 (prW s 1)
def prShort (s : List UInt8) : Bool := !Lib.hasSuffix s [10] || decide ((prL s).length < 2)
def prNowB (s : List UInt8) : Bool := decide (numErr 10 1099511627776 (prW s 1) = 0) && decide (textI (prNowN s) = prW s 1)
def prRows (s : List UInt8) : List (List UInt8) := (prL s).drop 2
def prOk (s : List UInt8) : Bool := !prShort s && (cfgHas cfgTo (prW s 0) && (prNowB s && (prRows s).all evB))
def prNm (s : List UInt8) : List UInt8 := if prOk s = true then cfgRN (prW s 0) else []
def prAu (s : List UInt8) : List UInt8 := if prOk s = true then cfgRA (prW s 0) else []
def prI (s : List UInt8) (i : Nat) : Int := if prOk s = true then cfgRI (prW s 0) i else 0
def prNow (s : List UInt8) : Int := if prOk s = true then prNowN s else 0
def prEvs (s : List UInt8) : List Ev := if prOk s = true then (prRows s).map evS else []
def prN (s : List UInt8) : Int :=
  if prShort s = true then (cntB 10 s : Nat)
  else if cfgHas cfgTo (prW s 0) = false then 1
  else if prNowB s = false then 2
  else if prOk s = true then (prL s).length
  else ((prRows s).takeWhile evB).length + 3
def prE (s : List UInt8) : Int := if prShort s = true then 2 else if prOk s = true then 0 else 3
theorem prShort_iff (s : List UInt8) : prShort s = true ↔ (Lib.hasSuffix s [10] = false ∨ (prL s).length < 2) := by simp [prShort]
theorem prNowB_iff (s : List UInt8) : prNowB s = true ↔ (numErr 10 1099511627776 (prW s 1) = 0 ∧ textI (prNowN s) = prW s 1) := by simp [prNowB]
theorem cfgRE_iff (w : List UInt8) : cfgRE w = 0 ↔ cfgHas cfgTo w = true := by simp [cfgRE]
theorem prL_len (s : List UInt8) : (prL s).length ≤ s.length + 1 ∧ 1 ≤ (prL s).length := by
  have h1 := splitB_len 10 (Lib.trimSuffix s [10])
  have h2 := cntB_le 10 (Lib.trimSuffix s [10])
  have h3 := trimSuffix_len s [10]
  unfold prL; omega
theorem prW_len (s : List UInt8) (i : Nat) : (prW s i).length ≤ s.length := Nat.le_trans (getD_split_len 10 _ i) (trimSuffix_len s [10])
theorem pr_no {s : List UInt8} (h : prOk s = false) : prNm s = [] ∧ prAu s = [] ∧ (∀ i, prI s i = 0) ∧ prNow s = 0 ∧ prEvs s = [] ∧ prE s = if prShort s = true then 2 else 3 := by
  simp [prNm, prAu, prI, prNow, prEvs, prE, h]
theorem pr_short {s : List UInt8} (h : prShort s = true) : prOk s = false ∧ prN s = (cntB 10 s : Nat) := by simp [prOk, prN, h]
theorem pr_cfg {s : List UInt8} (h : prShort s = false) (h1 : cfgHas cfgTo (prW s 0) = false) : prOk s = false ∧ prN s = 1 := by simp [prOk, prN, h, h1]
theorem pr_now {s : List UInt8} (h : prShort s = false) (h1 : cfgHas cfgTo (prW s 0) = true) (h2 : prNowB s = false) : prOk s = false ∧ prN s = 2 := by simp [prOk, prN, h, h1, h2]
theorem tw_bad {α : Type} {p : α → Bool} {d : α} : ∀ {l : List α} {k : Nat}, k < l.length → (l.take k).all p = true → p (l.getD k d) = false → (l.takeWhile p).length = k ∧ l.all p = false
  | [], k, h, _, _ => by simp at h
  | x :: l, 0, _, _, h => by
    have h' : p x = false := h
    simp [h']
  | x :: l, k + 1, h, h1, h2 => by
    simp only [List.take_succ_cons, List.all_cons, Bool.and_eq_true] at h1
    have h2' : p (l.getD k d) = false := by simpa using h2
    obtain ⟨a, b⟩ := tw_bad (by simpa using h) h1.2 h2'
    simp [h1.1, a, b]
theorem pr_row {s : List UInt8} (h : prShort s = false) (h1 : cfgHas cfgTo (prW s 0) = true) (h2 : prNowB s = true) {k : Nat} (hk : k < (prRows s).length) (ha : ((prRows s).take k).all evB = true) (hb : evB ((prRows s).getD k []) = false) : prOk s = false ∧ prN s = (k : Int) + 3 := by
  obtain ⟨a, b⟩ := tw_bad hk ha hb
  have e : prOk s = false := by simp [prOk, h, h1, h2, b]
  refine ⟨e, ?_⟩
  rw [prN, if_neg (by rw [h]; decide), if_neg (by rw [h1]; decide), if_neg (by rw [h2]; decide), if_neg (by rw [e]; decide), a]
theorem pr_yes {s : List UInt8} (h : prShort s = false) (h1 : cfgHas cfgTo (prW s 0) = true) (h2 : prNowB s = true) (ha : (prRows s).all evB = true) : prOk s = true ∧ prN s = (prL s).length ∧ prE s = 0 ∧ prNm s = cfgRN (prW s 0) ∧ prAu s = cfgRA (prW s 0) ∧ (∀ i, prI s i = cfgRI (prW s 0) i) ∧ prNow s = prNowN s ∧ prEvs s = (prRows s).map evS := by
  have e : prOk s = true := by simp [prOk, h, h1, h2, ha]
  simp [prNm, prAu, prI, prNow, prEvs, prE, prN, e, h, h1, h2]
def evz : AV := .agg [.int .i64 0, .int .i64 0, .int .i64 0, .int .i64 0, .str []]
def scz : AV := .agg [.str [], .str [], .int .i64 0, .int .i64 0, .int .i64 0, .int .i64 0, .int .i64 0, .int .i64 0, .int .i64 0, .int .i64 0, .int .i64 0, .int .i64 0, .int .i64 0, .int .i64 0, .int .i64 0, .int .i64 0, .int .i64 0, .int .i64 0, .int .i64 0, .nils]
def scA (w : List UInt8) (now : Int) (v : AV) : AV := .agg [.str (cfgRN w), .str (cfgRA w), .int .i64 (cfgRI w 0), .int .i64 (cfgRI w 1), .int .i64 (cfgRI w 2), .int .i64 (cfgRI w 3), .int .i64 (cfgRI w 4), .int .i64 (cfgRI w 5), .int .i64 (cfgRI w 6), .int .i64 (cfgRI w 7), .int .i64 (cfgRI w 8), .int .i64 (cfgRI w 9), .int .i64 (cfgRI w 10), .int .i64 (cfgRI w 11), .int .i64 (cfgRI w 12), .int .i64 (cfgRI w 13), .int .i64 (cfgRI w 14), .int .i64 (cfgRI w 15), .int .i64 now, v]
section
variable {P : Program} {C : Tbl} {wr : Bool} {D : Nat → List Nat} {U : Nat → Option CutS} {m : Nat} {st : St} {Q : Ex → St → Prop} {b : Code}
theorem VN_inv {X : Type} (emb : X → St) (I : X → Prop) (μ : X → Nat) (x0 : X) (hw : WeakE m st (emb x0)) (hI : I x0) (h : ∀ x, I x → @V P C wr m (emb x) ⟨D⟩ ⟨U⟩ ⟨b⟩ ⟨kinv m emb I μ x Q⟩) : @VN P C wr m st 0 ⟨D⟩ ⟨U⟩ ⟨b⟩ ⟨Q⟩ := by
  refine ⟨X, emb, I, μ, x0, hw.weak, hI, fun x hx => W_mono _ _ _ _ (fun e s hs => ?_) (h x hx)⟩
  cases e with
  | normal => obtain ⟨x', h1, h2, h3⟩ := hs; exact ⟨x', h1.weak, h2, h3⟩
  | exit i => exact hs
  | ret => exact hs
end
theorem rows_snoc (l : List (List UInt8)) {k : Nat} (h : k < l.length) : (l.take (k + 1)).map (fun r => enc_ev (evS r)) = (l.take k).map (fun r => enc_ev (evS r)) ++ [enc_ev (evS (l.getD k []))] := by
  rw [take_succ_getD [] h, List.map_append]; rfl
theorem rows_all (l : List (List UInt8)) {k : Nat} (h : k < l.length) (ha : (l.take k).all evB = true) (hb : evB (l.getD k []) = true) : (l.take (k + 1)).all evB = true := by
  rw [take_succ_getD [] h, List.all_append, ha, List.all_cons, hb]; rfl
theorem row_len (s : List UInt8) (k : Nat) : ((prRows s).getD k []).length ≤ s.length := by
  have h : (prRows s).getD k [] = prW s (k + 2) := by
    rw [prRows, prW, List.getD_eq_getElem?_getD, List.getD_eq_getElem?_getD, List.getElem?_drop, Nat.add_comm]
  rw [h]; exact prW_len s _
end Go.Mdl
end
section
set_option linter.unusedVariables false
set_option linter.unusedSimpArgs false
namespace Go.Mdl
open Go Go.Abs
def rL (s : List UInt8) : List (List UInt8) := splitB 32 s
def rW (s : List UInt8) (i : Nat) : List UInt8 := (rL s).getD i []
def rP (s : List UInt8) : List (List UInt8) := splitB 46 (rW s 1)
def rOp (s : List UInt8) : Int := opOf (rW s 0)
def rCl (s : List UInt8) : Int := if rOp s = 6 then 0 else numVal 10 16 ((rP s).getD 0 [])
def rOg (s : List UInt8) : Int := if rOp s = 6 then 0 else if 1 < (rP s).length then numVal 10 1000 ((rP s).getD 1 []) else 0
def rT (s : List UInt8) : List UInt8 := if rOp s = 2 ∧ 2 < (rL s).length then unqS (s.drop ((rW s 0).length + (rW s 1).length + 2)) else []
def rN (s : List UInt8) : Int := if rOp s = 6 then numVal 10 1073741824 (rW s 1) else if (rOp s = 4 ∨ rOp s = 5) ∧ 2 < (rL s).length then numVal 10 1073741824 (rW s 2) else 0
def rEv (s : List UInt8) : Ev := ⟨rOp s, rCl s, rOg s, rN s, rT s⟩
def rBad (s : List UInt8) : Bool := decide ((rL s).length < 2) || decide (rOp s = 0)
def reS (s : List UInt8) : Ev := if rBad s = true then ⟨rOp s, 0, 0, 0, []⟩ else if evB s = true then rEv s else ev0
theorem rL_pos (s : List UInt8) : 1 ≤ (rL s).length := by have := splitB_len 32 s; unfold rL; omega
theorem rW_room (s : List UInt8) (h : 2 < (rL s).length) : (rW s 0).length + (rW s 1).length + 2 ≤ s.length := by
  unfold rW rL at *
  by_cases h1 : upTo 32 s < s.length
  · rw [splitB_first h1] at h ⊢
    have l1 : (s.take (upTo 32 s)).length = upTo 32 s := by rw [List.length_take]; omega
    have l2 : (s.drop (upTo 32 s + 1)).length = s.length - (upTo 32 s + 1) := List.length_drop ..
    generalize s.drop (upTo 32 s + 1) = r at *
    by_cases h2 : upTo 32 r < r.length
    · rw [splitB_first h2] at h ⊢
      have l3 : (r.take (upTo 32 r)).length = upTo 32 r := by rw [List.length_take]; omega
      show (s.take (upTo 32 s)).length + (r.take (upTo 32 r)).length + 2 ≤ s.length
      omega
    · rw [splitB_last h2] at h; simp at h
  · rw [splitB_last h1] at h; simp at h
theorem rEv_of {s : List UInt8} {W : List UInt8} {e : Ev} (h0 : rW s 0 = W) (ho : opOf W = e.op) (hl : 2 ≤ (rL s).length) (h1 : 1 ≤ e.op) (hc : rCl s = e.cl) (hg : rOg s = e.og) (hn : rN s = e.n) (ht : rT s = e.t) : rEv s = e ∧ rBad s = false := by
  have o : rOp s = e.op := by rw [rOp, h0, ho]
  refine ⟨by rw [rEv, o, hc, hg, hn, ht], ?_⟩
  rw [rBad, o, decide_eq_false (by omega), decide_eq_false (by omega)]; rfl
theorem rEv_line {e : Ev} (h : rightE e = true) : rEv (evLine e) = e ∧ rBad (evLine e) = false := by
  obtain ⟨op, cl, og, n, t⟩ := e
  have hr := (rightE_iff _).1 h
  unfold RightP at hr
  simp only at hr
  obtain ⟨h1, h2, h6, hn⟩ := hr
  have hw := wordS_free (op := op)
  have hd : isDig 10 32 = false := by decide
  have hd2 : isDig 10 46 = false := by decide
  have ho := opOf_word (op := op) h1 h2
  by_cases e6 : op = 6
  · subst e6
    obtain ⟨rfl, rfl, n0, n1, ht⟩ := h6 rfl
    have ht' : t = [] := List.eq_nil_of_length_eq_zero ht
    subst ht'
    have el : evLine ⟨6, 0, 0, n, []⟩ = wordS 6 ++ 32 :: textI n := by simp [evLine]
    have sl : rL (evLine ⟨6, 0, 0, n, []⟩) = [wordS 6, textI n] := by
      rw [el, rL, splitB_app hw, splitB_no (text_ne (p := n) n0 (by omega) hd)]
    generalize evLine ⟨6, 0, 0, n, []⟩ = s at *
    have w0 : rW s 0 = wordS 6 := by rw [rW, sl]; rfl
    have w1 : rW s 1 = textI n := by rw [rW, sl]; rfl
    have o : rOp s = 6 := by rw [rOp, w0, ho]
    refine rEv_of w0 ho (by rw [sl]; simp) h1 ?_ ?_ ?_ ?_
    · rw [rCl, if_pos o]
    · rw [rOg, if_pos o]
    · rw [rN, if_pos o, w1]; exact num_small n0 n1 (by omega)
    · rw [rT, o, if_neg (by omega)]
  · obtain ⟨b1, b2, b3, b4, b5, b6, b7⟩ := hn e6
    have nc := text_ne (p := cl) b1 (by omega) hd
    have nc2 := text_ne (p := cl) b1 (by omega) hd2
    have no := text_ne (p := og) b3 (by omega) hd
    have no2 := text_ne (p := og) b3 (by omega) hd2
    have v1 := num_small (p := cl) (most := 16) b1 (by omega) (by omega)
    have v2 := num_small (p := og) (most := 1000) b3 b4 (by omega)
    by_cases eo : 2 ≤ op ∧ op ≤ 5
    · have hx : ∀ x ∈ textI cl ++ 46 :: textI og, x ≠ 32 := fun x hx => by
        rcases List.mem_append.1 hx with hx | hx
        · exact nc x hx
        · rcases List.mem_cons.1 hx with rfl | hx
          · decide
          · exact no x hx
      have pp : splitB 46 (textI cl ++ 46 :: textI og) = [textI cl, textI og] := by rw [splitB_app nc2, splitB_no no2]
      have fin : ∀ s : List UInt8, rW s 0 = wordS op → rW s 1 = textI cl ++ 46 :: textI og → 2 ≤ (rL s).length → rN s = n → rT s = t → rEv s = ⟨op, cl, og, n, t⟩ ∧ rBad s = false := fun s w0 w1 hl hn' ht' => by
        have o : rOp s = op := by rw [rOp, w0, ho]
        have p : rP s = [textI cl, textI og] := by rw [rP, w1, pp]
        refine rEv_of w0 ho hl h1 ?_ ?_ hn' ht'
        · rw [rCl, o, if_neg e6, p]; exact v1
        · rw [rOg, o, if_neg e6, p, if_pos (by simp)]; exact v2
      have l0 : evLine ⟨op, cl, og, n, t⟩ = wordS op ++ 32 :: (textI cl ++ 46 :: textI og ++ (if op = 2 then 32 :: qtdS t else if 4 ≤ op ∧ op ≤ 6 then 32 :: textI n else [])) := by
        simp only [evLine, if_neg e6, if_pos eo]; simp
      by_cases e2 : op = 2
      · have n0 := (b7 (by omega)).1
        subst n0
        rw [if_pos e2] at l0
        have sl : rL (evLine ⟨op, cl, og, 0, t⟩) = wordS op :: (textI cl ++ 46 :: textI og) :: splitB 32 (qtdS t) := by
          rw [l0, rL, splitB_app hw, splitB_app hx]
        have dr : (evLine ⟨op, cl, og, 0, t⟩).drop ((wordS op).length + (textI cl ++ 46 :: textI og).length + 2) = qtdS t := by
          rw [l0, show wordS op ++ 32 :: (textI cl ++ 46 :: textI og ++ 32 :: qtdS t) = (wordS op ++ 32 :: (textI cl ++ 46 :: textI og) ++ [32]) ++ qtdS t by simp]
          exact List.drop_left' (by simp; omega)
        have hp := splitB_len 32 (qtdS t)
        generalize evLine ⟨op, cl, og, 0, t⟩ = s at *
        have w0 : rW s 0 = wordS op := by rw [rW, sl]; rfl
        have w1 : rW s 1 = textI cl ++ 46 :: textI og := by rw [rW, sl]; rfl
        have o : rOp s = op := by rw [rOp, w0, ho]
        have l3 : 2 < (rL s).length := by rw [sl]; simp only [List.length_cons]; omega
        refine fin s w0 w1 (by omega) ?_ ?_
        · rw [rN, o, if_neg e6, if_neg (by omega)]
        · rw [rT, o, if_pos ⟨e2, l3⟩, w0, w1, dr]; exact (unqB_quote t).2
      · have ht : t = [] := by
          refine List.eq_nil_of_length_eq_zero ?_
          by_cases e4 : op = 4 ∨ op = 5
          · exact (b6 e4).2.2
          · rcases (b7 e4).2 with ⟨x, _⟩ | x
            · exact absurd x e2
            · exact x
        subst ht
        rw [if_neg e2] at l0
        by_cases e4 : op = 4 ∨ op = 5
        · obtain ⟨m0, m1, _⟩ := b6 e4
          rw [if_pos (by omega)] at l0
          have sl : rL (evLine ⟨op, cl, og, n, []⟩) = [wordS op, textI cl ++ 46 :: textI og, textI n] := by
            rw [l0, rL, splitB_app hw, splitB_app hx, splitB_no (text_ne (p := n) m0 (by omega) hd)]
          generalize evLine ⟨op, cl, og, n, []⟩ = s at *
          have w0 : rW s 0 = wordS op := by rw [rW, sl]; rfl
          have w1 : rW s 1 = textI cl ++ 46 :: textI og := by rw [rW, sl]; rfl
          have w2 : rW s 2 = textI n := by rw [rW, sl]; rfl
          have o : rOp s = op := by rw [rOp, w0, ho]
          refine fin s w0 w1 (by rw [sl]; simp) ?_ ?_
          · rw [rN, o, if_neg e6, if_pos ⟨e4, by rw [sl]; simp⟩, w2]; exact num_small m0 (by omega) (by omega)
          · rw [rT, o, if_neg (by omega)]
        · have n0 := (b7 e4).1
          subst n0
          rw [if_neg (by omega), List.append_nil] at l0
          have sl : rL (evLine ⟨op, cl, og, 0, []⟩) = [wordS op, textI cl ++ 46 :: textI og] := by
            rw [l0, rL, splitB_app hw, splitB_no hx]
          generalize evLine ⟨op, cl, og, 0, []⟩ = s at *
          have w0 : rW s 0 = wordS op := by rw [rW, sl]; rfl
          have w1 : rW s 1 = textI cl ++ 46 :: textI og := by rw [rW, sl]; rfl
          have o : rOp s = op := by rw [rOp, w0, ho]
          refine fin s w0 w1 (by rw [sl]; simp) ?_ ?_
          · rw [rN, o, if_neg e6, if_neg (by omega)]
          · rw [rT, o, if_neg (by omega)]
    · have e17 : op = 1 ∨ op = 7 := by omega
      have og0 := b5 e17
      have n0 := (b7 (by omega)).1
      have ht : t = [] := by
        rcases (b7 (by omega)).2 with ⟨x, _⟩ | x
        · omega
        · exact List.eq_nil_of_length_eq_zero x
      subst ht og0 n0
      have l0 : evLine ⟨op, cl, 0, 0, []⟩ = wordS op ++ 32 :: textI cl := by
        simp only [evLine, if_neg e6, if_neg eo, if_neg (show ¬ op = 2 by omega), if_neg (show ¬ (4 ≤ op ∧ op ≤ 6) by omega)]; simp
      have sl : rL (evLine ⟨op, cl, 0, 0, []⟩) = [wordS op, textI cl] := by
        rw [l0, rL, splitB_app hw, splitB_no nc]
      generalize evLine ⟨op, cl, 0, 0, []⟩ = s at *
      have w0 : rW s 0 = wordS op := by rw [rW, sl]; rfl
      have w1 : rW s 1 = textI cl := by rw [rW, sl]; rfl
      have o : rOp s = op := by rw [rOp, w0, ho]
      have p : rP s = [textI cl] := by rw [rP, w1, splitB_no nc2]
      refine rEv_of w0 ho (by rw [sl]; simp) h1 ?_ ?_ ?_ ?_
      · rw [rCl, o, if_neg e6, p]; exact v1
      · rw [rOg, o, if_neg e6, p, if_neg (by simp)]
      · rw [rN, o, if_neg e6, if_neg (by omega)]
      · rw [rT, o, if_neg (by omega)]
theorem rEv_yes {s : List UInt8} (h : evB s = true) : rEv s = evS s ∧ rBad s = false ∧ reS s = evS s := by
  obtain ⟨e, h1, rfl⟩ := (evB_iff s).1 h
  obtain ⟨a, b⟩ := rEv_line h1
  rw [reS, b, h, a, (evS_line h1).1]
  exact ⟨rfl, rfl, rfl⟩
theorem rEv_bad {s : List UInt8} (h : rBad s = true) : evB s = false := by
  rw [← Bool.not_eq_true]
  intro hb
  rw [(rEv_yes hb).2.1] at h
  cases h
theorem rEv_is {s : List UInt8} (h1 : rightE (rEv s) = true) (h2 : evLine (rEv s) = s) : evB s = true := (evB_iff s).2 ⟨_, h1, h2.symm⟩
theorem rEv_no {s : List UInt8} (h : rightE (rEv s) = false ∨ ¬ evLine (rEv s) = s) : evB s = false := by
  rw [← Bool.not_eq_true]
  intro hb
  obtain ⟨e, h1, rfl⟩ := (evB_iff s).1 hb
  rw [(rEv_line h1).1] at h
  rcases h with h | h
  · rw [h] at h1; cases h1
  · exact h rfl
end Go.Mdl
end
section
set_option linter.unusedVariables false
set_option linter.unusedSimpArgs false
namespace Go.Mdl
open Go Go.Abs
theorem ev_eta (e : Ev) : (⟨e.op, e.cl, e.og, e.n, e.t⟩ : Ev) = e := rfl
end Go.Mdl
end
section
set_option linter.unusedVariables false
set_option linter.unusedSimpArgs false
namespace Go.Proofs.Tryz.Spt
open Go Go.Abs Go.Proofs Go.Mdl
def T_specSplit : Tbl := fun g E args => nilT g E args
theorem T_specSplit_ok : TblOK Tryz.prog T_specSplit := nilT_ok
set_option maxRecDepth 100000 in
set_option maxHeartbeats 4000000 in
theorem specSplit (s : List UInt8) (c : UInt8) (hs : s.length ≤ 1000000) : SpecE Tryz.prog 21 [] [.str s, enc_u8 c] [] (enc_strs (splitB c s)) := by
  refine specF0 (C := T_specSplit) (wr := false) (D := fun _ => []) (U := fun _ => none) (res := [enc_strs (splitB c s)]) Tryz.Ty.mixed T_specSplit_ok Tryz.func21 (nA := 2) (by decide +kernel) rfl (fun _ => rfl) ?_
  simp only [Tryz.f21, bodyOf, rlOf]
  rw [W_V]
  simp (config := {maxSteps := 2000000}) only [T_specSplit, go_sem, seval]
  (try simp (config := {maxSteps := 2000000}) only [gimp, impB, isT, go_sem, seval])
  refine VL_inv (X := Nat × Nat × List (List UInt8)) (fun x => ⟨[(0, .str s), (1, .int .u8 c.toNat), (5, .ref 144 0 x.2.2.length x.2.2.length), (6, .int .i64 x.2.1), (7, .int .i64 x.1)], [(144, .cells 1 false (.str []) (x.2.2.map .str))]⟩)
    (fun x => x.1 ≤ s.length ∧ x.2.1 ≤ x.1 ∧ x.2.2.length ≤ x.2.1 ∧ splitB c s = x.2.2 ++ splitB c (s.drop x.2.1) ∧ ∀ d ∈ (s.take x.1).drop x.2.1, d ≠ c) (fun x => s.length - x.1) (0, 0, []) ?_ ?_ ?_
  · simp only [T_specSplit, go_sem, seval]
    try rfl
  · exact ⟨Nat.zero_le _, Nat.le_refl _, Nat.le_refl _, rfl, by simp⟩
  rintro ⟨i, f, o⟩ ⟨i1, i2, i3, i4, i5⟩
  simp only at i1 i2 i3 i4 i5
  simp (config := {maxSteps := 2000000}) only [T_specSplit, go_sem, seval]
  (try simp (config := {maxSteps := 2000000}) only [gimp, impB, isT, go_sem, seval])
  have sn : ∀ t, o.map AV.str ++ [AV.str t] = (o ++ [t]).map AV.str := fun t => by rw [List.map_append]; rfl
  simp only [sn]
  have dl : (s.drop i).length = s.length - i := List.length_drop ..
  refine ⟨fun hlt => ⟨by omega, fun hc => ⟨by omega, by omega, by omega, by omega, (i + 1, i + 1, o ++ [(s.take i).drop f]), ⟨⟨by simp, by simp, by simp⟩, rfl⟩, ⟨by simp only; omega, Nat.le_refl _, by simp only [List.length_append, List.length_singleton]; omega, ?_, ?_⟩, by simp only; omega⟩, fun hc => ⟨by omega, (i + 1, f, o), ⟨⟨rfl, rfl, by simp⟩, rfl⟩, ⟨by simp only; omega, by simp only; omega, by simp only; omega, i4, spl_next (by omega) i2 hc i5⟩, by simp only; omega⟩⟩, fun hge => ⟨by omega, by omega, ?_, by simp⟩⟩
  · simp only; rw [i4, spl_step (by omega) i2 hc i5, List.append_assoc]; rfl
  · simp only
    rw [List.drop_eq_nil_of_le (by rw [List.length_take]; omega)]
    simp
  · have e : i = s.length := by omega
    subst e
    rw [List.take_length] at i5
    rw [i4, splitB_no i5, List.take_of_length_le (by simp)]
def tb_specSplit : List Blk → List AV → Option (List Blk × AV × Prop)
  | [], [.str s, a1] => some ([], enc_strs (splitB (dec_u8 a1) s), (s.length ≤ 1000000) ∧ argOK a1 (enc_u8 (dec_u8 a1)))
  | _, _ => none
theorem tb_specSplit_ok : ∀ E args E' res p, tb_specSplit E args = some (E', res, p) → p → SpecE Tryz.prog 21 E args E' res := by
  intro E args E' res p h hp
  unfold tb_specSplit at h
  split at h
  · simp only [Option.some.injEq, Prod.mk.injEq] at h
    obtain ⟨rfl, rfl, rfl⟩ := h
    exact SpecE.args (specSplit _ _ hp.1) (.cons (argOK.refl _) (.cons hp.2 .nil))
  · cases h
def T_specSame : Tbl := fun g E args => nilT g E args
theorem T_specSame_ok : TblOK Tryz.prog T_specSame := nilT_ok
set_option maxRecDepth 100000 in
set_option maxHeartbeats 4000000 in
theorem specSame (a b : List Ev) (ha : a.length ≤ 1000000) (hb : b.length ≤ 1000000) : SpecE Tryz.prog 26 [] [enc_evs a, enc_evs b] [] (.bool (decide (a = b))) := by
  refine specF0 (C := T_specSame) (wr := false) (D := fun _ => []) (U := fun _ => none) (res := [.bool (decide (a = b))]) Tryz.Ty.mixed T_specSame_ok Tryz.func26 (nA := 2) (by decide +kernel) rfl (fun _ => rfl) ?_
  simp only [Tryz.f26, bodyOf, rlOf]
  rw [W_V]
  simp (config := {maxSteps := 2000000}) only [T_specSame, go_sem, seval]
  (try simp (config := {maxSteps := 2000000}) only [gimp, impB, isT, go_sem, seval])
  refine ⟨fun h => ?_, fun h => ?_⟩
  · symm
    rw [decide_eq_false_iff_not]
    rintro rfl
    exact h rfl
  refine VL_inv (X := Nat) (fun k => ⟨[(0, .list 5 (a.map enc_ev)), (1, .list 5 (b.map enc_ev)), (5, .int .i64 k)], []⟩) (fun k => k ≤ a.length ∧ a.take k = b.take k) (fun k => a.length - k) 0 ?_ ?_ ?_
  · simp only [T_specSame, go_sem, seval]
    try rfl
  · exact ⟨Nat.zero_le _, by simp⟩
  rintro k ⟨k1, k2⟩
  simp (config := {maxSteps := 2000000}) only [T_specSame, go_sem, seval]
  (try simp (config := {maxSteps := 2000000}) only [gimp, impB, isT, go_sem, seval])
  have hl : a.length = b.length := by omega
  refine ⟨fun hlt => ⟨by omega, by omega, fun hd => ?_, fun e1 e2 e3 e4 e5 => ⟨by omega, k + 1, by omega, ⟨by omega, ?_⟩, by omega⟩⟩, fun hge => ?_⟩
  · symm
    rw [decide_eq_false_iff_not]
    rintro rfl
    simp at hd
  · have e : a.getD k ev0 = b.getD k ev0 := by
      rw [← ev_eta (a.getD k ev0), ← ev_eta (b.getD k ev0), e1, e2, e3, e4, e5]
    rw [take_succ_getD ev0 (by omega), take_succ_getD ev0 (by omega), k2, e]
  · rw [List.take_of_length_le (by omega), List.take_of_length_le (by omega)] at k2
    rw [decide_eq_true k2]
def tb_specSame : List Blk → List AV → Option (List Blk × AV × Prop)
  | [], [a0, a1] => some ([], .bool (decide ((dec_evs a0) = (dec_evs a1))), ((dec_evs a0).length ≤ 1000000) ∧ ((dec_evs a1).length ≤ 1000000) ∧ argOK a0 (enc_evs (dec_evs a0)) ∧ argOK a1 (enc_evs (dec_evs a1)))
  | _, _ => none
theorem tb_specSame_ok : ∀ E args E' res p, tb_specSame E args = some (E', res, p) → p → SpecE Tryz.prog 26 E args E' res := by
  intro E args E' res p h hp
  unfold tb_specSame at h
  split at h
  · simp only [Option.some.injEq, Prod.mk.injEq] at h
    obtain ⟨rfl, rfl, rfl⟩ := h
    exact SpecE.args (specSame _ _ hp.1 hp.2.1) (.cons hp.2.2.1 (.cons hp.2.2.2 .nil))
  · cases h
end Go.Proofs.Tryz.Spt
end
section
set_option linter.unusedVariables false
set_option linter.unusedSimpArgs false
namespace Go.Proofs.Tryz.EvR
open Go Go.Abs Go.Proofs Go.Mdl
theorem bnd {o c g n : Int} {t : List UInt8} (h : rightE ⟨o, c, g, n, t⟩ = true) : 0 ≤ c ∧ c ≤ 1000 ∧ 0 ≤ g ∧ g ≤ 1000 ∧ 0 ≤ n ∧ n ≤ 1073741824 ∧ t.length ≤ 4096 := by
  have hr := (rightE_iff _).1 h
  unfold RightP at hr
  simp only at hr
  omega
theorem leaf {s : List UInt8} {o c g n : Int} {t : List UInt8} (hb : rBad s = false) (he : rEv s = ⟨o, c, g, n, t⟩) :
    ((rightE ⟨o, c, g, n, t⟩ = false ∨ ¬ evLine ⟨o, c, g, n, t⟩ = s) → AV.agg [.int .i64 0, .int .i64 0, .int .i64 0, .int .i64 0, .str []] = AV.agg [.int .i64 (reS s).op, .int .i64 (reS s).cl, .int .i64 (reS s).og, .int .i64 (reS s).n, .str (reS s).t] ∧ false = evB s) ∧
    (rightE ⟨o, c, g, n, t⟩ = true → evLine ⟨o, c, g, n, t⟩ = s → AV.agg [.int .i64 o, .int .i64 c, .int .i64 g, .int .i64 n, .str t] = AV.agg [.int .i64 (reS s).op, .int .i64 (reS s).cl, .int .i64 (reS s).og, .int .i64 (reS s).n, .str (reS s).t] ∧ true = evB s) := by
  refine ⟨fun h => ?_, fun h1 h2 => ?_⟩
  · rw [← he] at h
    have e := rEv_no h
    rw [reS, hb, e]
    exact ⟨rfl, rfl⟩
  · rw [← he] at h1 h2
    have e := rEv_is h1 h2
    rw [reS, hb, e, if_neg (by decide), if_pos rfl, he]
    exact ⟨rfl, rfl⟩
def T_specEventR : Tbl := fun g E args => (addT (addT (addT (addT (addT (addT nilT 21 Go.Proofs.Tryz.Spt.tb_specSplit) 54 Go.Proofs.Tryz.ScrR.tb_specWord) 23 Go.Proofs.Tryz.Dig.tb_specNumberR) 55 Go.Proofs.Tryz.ScrR.tb_specUnquote) 35 Go.Proofs.Tryz.ScrR.tb_specRight) 40 Go.Proofs.Tryz.ScrR.tb_specLine) g E args
theorem T_specEventR_ok : TblOK Tryz.prog T_specEventR := (addT_ok (addT_ok (addT_ok (addT_ok (addT_ok (addT_ok nilT_ok (by decide +kernel) Go.Proofs.Tryz.Spt.tb_specSplit_ok) (by decide +kernel) Go.Proofs.Tryz.ScrR.tb_specWord_ok) (by decide +kernel) Go.Proofs.Tryz.Dig.tb_specNumberR_ok) (by decide +kernel) Go.Proofs.Tryz.ScrR.tb_specUnquote_ok) (by decide +kernel) Go.Proofs.Tryz.ScrR.tb_specRight_ok) (by decide +kernel) Go.Proofs.Tryz.ScrR.tb_specLine_ok)
set_option maxRecDepth 100000 in
set_option maxHeartbeats 4000000 in
theorem specEventR (s : List UInt8) (hs : s.length ≤ 100000) : SpecE Tryz.prog 25 [] [.str s] [] (.tuple [.agg [.int .i64 (reS s).op, .int .i64 (reS s).cl, .int .i64 (reS s).og, .int .i64 (reS s).n, .str (reS s).t], .bool (evB s)]) := by
  refine specF0 (C := T_specEventR) (wr := false) (D := fun _ => []) (U := fun _ => none) (res := [.agg [.int .i64 (reS s).op, .int .i64 (reS s).cl, .int .i64 (reS s).og, .int .i64 (reS s).n, .str (reS s).t], .bool (evB s)]) Tryz.Ty.mixed T_specEventR_ok Tryz.func25 (nA := 1) (by decide +kernel) rfl (fun _ => rfl) ?_
  simp only [Tryz.f25, bodyOf, rlOf]
  rw [W_V]
  simp (config := {maxSteps := 2000000}) only [T_specEventR, Go.Proofs.Tryz.Spt.tb_specSplit, Go.Proofs.Tryz.ScrR.tb_specWord, Go.Proofs.Tryz.Dig.tb_specNumberR, Go.Proofs.Tryz.ScrR.tb_specUnquote, Go.Proofs.Tryz.ScrR.tb_specRight, Go.Proofs.Tryz.ScrR.tb_specLine, go_sem, seval]
  (try simp (config := {maxSteps := 2000000}) only [gimp, impB, isT, go_sem, seval])
  refine ⟨by omega, ?_⟩
  rw [show splitB 32 s = rL s from rfl]
  refine VL_inv (X := Nat) (fun k => ⟨[(0, .str s), (2, .ptr 48 0 0 1), (3, .bool false), (4, enc_strs (rL s)), (5, .ptr 96 0 0 1), (6, .int .i64 ((k : Int) + 1))],
    [(48, .cells 5 false (.agg [.int .i64 0, .int .i64 0, .int .i64 0, .int .i64 0, .str []]) [.agg [.int .i64 0, .int .i64 0, .int .i64 0, .int .i64 0, .str []]]), (96, .cells 5 false (.agg [.int .i64 0, .int .i64 0, .int .i64 0, .int .i64 0, .str []]) [.agg [.int .i64 (opTo (rW s 0) k), .int .i64 0, .int .i64 0, .int .i64 0, .str []]])]⟩) (fun k => k ≤ 7) (fun k => 7 - k) 0 ?_ ?_ ?_
  · simp only [T_specEventR, Go.Proofs.Tryz.Spt.tb_specSplit, Go.Proofs.Tryz.ScrR.tb_specWord, Go.Proofs.Tryz.Dig.tb_specNumberR, Go.Proofs.Tryz.ScrR.tb_specUnquote, Go.Proofs.Tryz.ScrR.tb_specRight, Go.Proofs.Tryz.ScrR.tb_specLine, go_sem, seval]
    rfl
  · exact Nat.zero_le _
  rintro k hk
  simp (config := {maxSteps := 2000000}) only [T_specEventR, Go.Proofs.Tryz.Spt.tb_specSplit, Go.Proofs.Tryz.ScrR.tb_specWord, Go.Proofs.Tryz.Dig.tb_specNumberR, Go.Proofs.Tryz.ScrR.tb_specUnquote, Go.Proofs.Tryz.ScrR.tb_specRight, Go.Proofs.Tryz.ScrR.tb_specLine, go_sem, seval]
  (try simp (config := {maxSteps := 2000000}) only [gimp, impB, isT, go_sem, seval])
  have step : (k : Int) + 1 ≤ 7 → opTo (rW s 0) (k + 1) = if wordS ((k : Int) + 1) = rW s 0 then (k : Int) + 1 else opTo (rW s 0) k := fun _ => by simp [opTo]
  have h1 := rL_pos s
  simp only [show (rL s).getD 0 [] = rW s 0 from rfl, show (rL s).getD 1 [] = rW s 1 from rfl, show (rL s).getD 2 [] = rW s 2 from rfl, show splitB 46 (rW s 1) = rP s from rfl]
  refine ⟨fun hlt => ⟨by omega, fun hw => ⟨by omega, k + 1, ⟨by omega, by rw [step hlt, if_pos hw]⟩, by omega, by omega⟩, fun hw => ⟨by omega, k + 1, ⟨by omega, by rw [step hlt, if_neg hw]⟩, by omega, by omega⟩⟩, fun hge => ?_⟩
  have hk7 : k = 7 := by omega
  subst hk7
  have ho : opTo (rW s 0) 7 = rOp s := opTo_7 (rW s 0)
  rw [ho]
  have tn : ((rW s 0).length + (rW s 1).length + 2 : Int).toNat = (rW s 0).length + (rW s 1).length + 2 := by omega
  simp only [tn]
  have l1 : (rW s 1).length ≤ s.length := getD_split_len 32 s 1
  have l2 : (rW s 2).length ≤ s.length := getD_split_len 32 s 2
  have l3 : ((rP s).getD 0 []).length ≤ (rW s 1).length := getD_split_len 46 _ 0
  have l4 : ((rP s).getD 1 []).length ≤ (rW s 1).length := getD_split_len 46 _ 1
  have l5 := rW_room s
  have l6 : 1 ≤ (rP s).length := by have := splitB_len 46 (rW s 1); unfold rP; omega
  have hb' : 2 ≤ ((rL s).length : Int) → ¬ rOp s = 0 → rBad s = false := fun g1 g2 => by rw [rBad, decide_eq_false g2, decide_eq_false (by omega)]; rfl
  refine ⟨fun h => ?_, fun g1 g2 => ⟨fun h6 => ⟨by omega, by omega, fun h => by omega, fun _ => ⟨fun h => by omega, fun _ => ?_⟩⟩, fun h6 => ?_⟩⟩
  · have hb : rBad s = true := by
      unfold rBad
      rcases h with h | h
      · rw [decide_eq_true (show (rL s).length < 2 by omega)]; rfl
      · rw [decide_eq_true h, Bool.or_true]
    rw [reS, if_pos hb, rEv_bad hb]
    exact ⟨rfl, rfl⟩
  all_goals have hb := hb' g1 g2
  · refine ⟨?_, leaf hb ?_⟩
    · (repeat' (first | refine And.intro ?_ ?_ | intro _)) <;> (have := bnd (by assumption); omega)
    · simp only [Bool.and_eq_false_iff, Bool.or_eq_false_iff, decide_eq_false_iff_not] at *
      unfold rEv rCl rOg rN rT
      (repeat' split) <;> first | rfl | (exfalso; omega)
  · refine ⟨by omega, by omega, by omega, by omega, fun hp => ⟨by omega, by omega, ?_⟩, fun hp => ?_⟩
    · refine ⟨fun h2 h2l => ⟨by omega, by omega, by omega, by omega, by have := l5 (by omega); omega, by rw [List.length_drop]; omega, fun h => by omega, fun h45 => ?_⟩, fun hn2 => ⟨fun h45 h45l => ⟨by omega, by omega, ?_⟩, fun h45 => ?_⟩⟩
      · refine ⟨?_, leaf hb ?_⟩
        · (repeat' (first | refine And.intro ?_ ?_ | intro _)) <;> (have := bnd (by assumption); omega)
        · simp only [Bool.and_eq_false_iff, Bool.or_eq_false_iff, decide_eq_false_iff_not] at *
          unfold rEv rCl rOg rN rT
          (repeat' split) <;> first | rfl | (exfalso; omega)
      · refine ⟨?_, leaf hb ?_⟩
        · (repeat' (first | refine And.intro ?_ ?_ | intro _)) <;> (have := bnd (by assumption); omega)
        · simp only [Bool.and_eq_false_iff, Bool.or_eq_false_iff, decide_eq_false_iff_not] at *
          unfold rEv rCl rOg rN rT
          (repeat' split) <;> first | rfl | (exfalso; omega)
      · refine ⟨?_, leaf hb ?_⟩
        · (repeat' (first | refine And.intro ?_ ?_ | intro _)) <;> (have := bnd (by assumption); omega)
        · simp only [Bool.and_eq_false_iff, Bool.or_eq_false_iff, decide_eq_false_iff_not] at *
          unfold rEv rCl rOg rN rT
          (repeat' split) <;> first | rfl | (exfalso; omega)
    · refine ⟨fun h2 h2l => ⟨by omega, by omega, by omega, by omega, by have := l5 (by omega); omega, by rw [List.length_drop]; omega, fun h => by omega, fun h45 => ?_⟩, fun hn2 => ⟨fun h45 h45l => ⟨by omega, by omega, ?_⟩, fun h45 => ?_⟩⟩
      · refine ⟨?_, leaf hb ?_⟩
        · (repeat' (first | refine And.intro ?_ ?_ | intro _)) <;> (have := bnd (by assumption); omega)
        · simp only [Bool.and_eq_false_iff, Bool.or_eq_false_iff, decide_eq_false_iff_not] at *
          unfold rEv rCl rOg rN rT
          (repeat' split) <;> first | rfl | (exfalso; omega)
      · refine ⟨?_, leaf hb ?_⟩
        · (repeat' (first | refine And.intro ?_ ?_ | intro _)) <;> (have := bnd (by assumption); omega)
        · simp only [Bool.and_eq_false_iff, Bool.or_eq_false_iff, decide_eq_false_iff_not] at *
          unfold rEv rCl rOg rN rT
          (repeat' split) <;> first | rfl | (exfalso; omega)
      · refine ⟨?_, leaf hb ?_⟩
        · (repeat' (first | refine And.intro ?_ ?_ | intro _)) <;> (have := bnd (by assumption); omega)
        · simp only [Bool.and_eq_false_iff, Bool.or_eq_false_iff, decide_eq_false_iff_not] at *
          unfold rEv rCl rOg rN rT
          (repeat' split) <;> first | rfl | (exfalso; omega)
def tb_specEventR : List Blk → List AV → Option (List Blk × AV × Prop)
  | [], [.str s] => some ([], .tuple [.agg [.int .i64 (reS s).op, .int .i64 (reS s).cl, .int .i64 (reS s).og, .int .i64 (reS s).n, .str (reS s).t], .bool (evB s)], (s.length ≤ 100000))
  | _, _ => none
theorem tb_specEventR_ok : ∀ E args E' res p, tb_specEventR E args = some (E', res, p) → p → SpecE Tryz.prog 25 E args E' res := by
  intro E args E' res p h hp
  unfold tb_specEventR at h
  split at h
  · simp only [Option.some.injEq, Prod.mk.injEq] at h
    obtain ⟨rfl, rfl, rfl⟩ := h
    exact (specEventR _ hp)
  · cases h
end Go.Proofs.Tryz.EvR
end
section
set_option linter.unusedVariables false
set_option linter.unusedSimpArgs false
namespace Go.Proofs.Tryz.Cfg
open Go Go.Abs Go.Proofs Go.Mdl
def cfz : AV := .agg [.str [], .str [], .int .i64 0, .int .i64 0, .int .i64 0, .int .i64 0, .int .i64 0, .int .i64 0, .int .i64 0, .int .i64 0, .int .i64 0, .int .i64 0, .int .i64 0, .int .i64 0, .int .i64 0, .int .i64 0, .int .i64 0, .int .i64 0]
def T_specBounds : Tbl := fun g E args => nilT g E args
theorem T_specBounds_ok : TblOK Tryz.prog T_specBounds := nilT_ok
set_option maxRecDepth 100000 in
set_option maxHeartbeats 4000000 in
theorem specBounds (nm au : List UInt8) (n0 n1 n2 n3 n4 n5 n6 n7 n8 n9 n10 n11 n12 n13 n14 n15 : Int) : SpecE Tryz.prog 46 [.cells 18 false cfz [.agg [.str nm, .str au, .int .i64 n0, .int .i64 n1, .int .i64 n2, .int .i64 n3, .int .i64 n4, .int .i64 n5, .int .i64 n6, .int .i64 n7, .int .i64 n8, .int .i64 n9, .int .i64 n10, .int .i64 n11, .int .i64 n12, .int .i64 n13, .int .i64 n14, .int .i64 n15]]] [.ptr 0 0 0 1] [.cells 18 false cfz [.agg [.str nm, .str au, .int .i64 n0, .int .i64 n1, .int .i64 n2, .int .i64 n3, .int .i64 n4, .int .i64 n5, .int .i64 n6, .int .i64 n7, .int .i64 n8, .int .i64 n9, .int .i64 n10, .int .i64 n11, .int .i64 n12, .int .i64 n13, .int .i64 n14, .int .i64 n15]]] (.agg [.ptr 0 0 2 1, .int .i64 0, .int .i64 1, .ptr 0 0 3 1, .int .i64 0, .int .i64 1, .ptr 0 0 4 1, .int .i64 0, .int .i64 1, .ptr 0 0 5 1, .int .i64 0, .int .i64 1, .ptr 0 0 6 1, .int .i64 1, .int .i64 65536, .ptr 0 0 7 1, .int .i64 1, .int .i64 65536, .ptr 0 0 8 1, .int .i64 0, .int .i64 100, .ptr 0 0 9 1, .int .i64 0, .int .i64 1073741824, .ptr 0 0 10 1, .int .i64 1, .int .i64 16, .ptr 0 0 11 1, .int .i64 1, .int .i64 16, .ptr 0 0 12 1, .int .i64 0, .int .i64 1, .ptr 0 0 13 1, .int .i64 16, .int .i64 65536, .ptr 0 0 14 1, .int .i64 1, .int .i64 1000, .ptr 0 0 15 1, .int .i64 3, .int .i64 4096, .ptr 0 0 16 1, .int .i64 0, .int .i64 1048576, .ptr 0 0 17 1, .int .i64 0, .int .i64 1]) := by
  refine specFE (C := T_specBounds) (wr := false) (D := fun i => if i = 2 then [65] else []) (U := fun _ => none) (E := [.cells 18 false cfz [.agg [.str nm, .str au, .int .i64 n0, .int .i64 n1, .int .i64 n2, .int .i64 n3, .int .i64 n4, .int .i64 n5, .int .i64 n6, .int .i64 n7, .int .i64 n8, .int .i64 n9, .int .i64 n10, .int .i64 n11, .int .i64 n12, .int .i64 n13, .int .i64 n14, .int .i64 n15]]]) (E' := [.cells 18 false cfz [.agg [.str nm, .str au, .int .i64 n0, .int .i64 n1, .int .i64 n2, .int .i64 n3, .int .i64 n4, .int .i64 n5, .int .i64 n6, .int .i64 n7, .int .i64 n8, .int .i64 n9, .int .i64 n10, .int .i64 n11, .int .i64 n12, .int .i64 n13, .int .i64 n14, .int .i64 n15]]]) (res := [.agg [.ptr 0 0 2 1, .int .i64 0, .int .i64 1, .ptr 0 0 3 1, .int .i64 0, .int .i64 1, .ptr 0 0 4 1, .int .i64 0, .int .i64 1, .ptr 0 0 5 1, .int .i64 0, .int .i64 1, .ptr 0 0 6 1, .int .i64 1, .int .i64 65536, .ptr 0 0 7 1, .int .i64 1, .int .i64 65536, .ptr 0 0 8 1, .int .i64 0, .int .i64 100, .ptr 0 0 9 1, .int .i64 0, .int .i64 1073741824, .ptr 0 0 10 1, .int .i64 1, .int .i64 16, .ptr 0 0 11 1, .int .i64 1, .int .i64 16, .ptr 0 0 12 1, .int .i64 0, .int .i64 1, .ptr 0 0 13 1, .int .i64 16, .int .i64 65536, .ptr 0 0 14 1, .int .i64 1, .int .i64 1000, .ptr 0 0 15 1, .int .i64 3, .int .i64 4096, .ptr 0 0 16 1, .int .i64 0, .int .i64 1048576, .ptr 0 0 17 1, .int .i64 0, .int .i64 1]]) [] Tryz.Ty.mixed T_specBounds_ok Tryz.func46 (args := [.ptr 0 0 0 1]) (nE := 1) (nA := 1) (by decide +kernel) rfl rfl ?_
  simp only [Tryz.f46, bodyOf, rlOf]
  rw [W_V]
  simp (config := {maxSteps := 2000000}) only [T_specBounds, go_sem, seval, Option.some.injEq, false_and, one1, cfz]
  (try simp (config := {maxSteps := 2000000}) only [gimp, impB, isT, go_sem, seval])
def tb_specBounds : List Blk → List AV → Option (List Blk × AV × Prop)
  | [.cells 18 false d [.agg [.str nm, .str au, .int .i64 n0, .int .i64 n1, .int .i64 n2, .int .i64 n3, .int .i64 n4, .int .i64 n5, .int .i64 n6, .int .i64 n7, .int .i64 n8, .int .i64 n9, .int .i64 n10, .int .i64 n11, .int .i64 n12, .int .i64 n13, .int .i64 n14, .int .i64 n15]]], [.ptr 0 0 0 1] => some ([.cells 18 false cfz [.agg [.str nm, .str au, .int .i64 n0, .int .i64 n1, .int .i64 n2, .int .i64 n3, .int .i64 n4, .int .i64 n5, .int .i64 n6, .int .i64 n7, .int .i64 n8, .int .i64 n9, .int .i64 n10, .int .i64 n11, .int .i64 n12, .int .i64 n13, .int .i64 n14, .int .i64 n15]]], .agg [.ptr 0 0 2 1, .int .i64 0, .int .i64 1, .ptr 0 0 3 1, .int .i64 0, .int .i64 1, .ptr 0 0 4 1, .int .i64 0, .int .i64 1, .ptr 0 0 5 1, .int .i64 0, .int .i64 1, .ptr 0 0 6 1, .int .i64 1, .int .i64 65536, .ptr 0 0 7 1, .int .i64 1, .int .i64 65536, .ptr 0 0 8 1, .int .i64 0, .int .i64 100, .ptr 0 0 9 1, .int .i64 0, .int .i64 1073741824, .ptr 0 0 10 1, .int .i64 1, .int .i64 16, .ptr 0 0 11 1, .int .i64 1, .int .i64 16, .ptr 0 0 12 1, .int .i64 0, .int .i64 1, .ptr 0 0 13 1, .int .i64 16, .int .i64 65536, .ptr 0 0 14 1, .int .i64 1, .int .i64 1000, .ptr 0 0 15 1, .int .i64 3, .int .i64 4096, .ptr 0 0 16 1, .int .i64 0, .int .i64 1048576, .ptr 0 0 17 1, .int .i64 0, .int .i64 1], (d = cfz))
  | _, _ => none
theorem tb_specBounds_ok : ∀ E args E' res p, tb_specBounds E args = some (E', res, p) → p → SpecE Tryz.prog 46 E args E' res := by
  intro E args E' res p h hp
  unfold tb_specBounds at h
  split at h
  · simp only [Option.some.injEq, Prod.mk.injEq] at h
    obtain ⟨rfl, rfl, rfl⟩ := h
    obtain rfl := hp
    exact (specBounds _ _ _ _ _ _ _ _ _ _ _ _ _ _ _ _ _ _)
  · cases h
def T_specRight : Tbl := fun g E args => (addT (addT (addT nilT 60 Go.Proofs.Tryz.Host.tb_specKey) 61 Go.Proofs.Tryz.Oct.tb_specToken) 46 Go.Proofs.Tryz.Cfg.tb_specBounds) g E args
theorem T_specRight_ok : TblOK Tryz.prog T_specRight := (addT_ok (addT_ok (addT_ok nilT_ok (by decide +kernel) Go.Proofs.Tryz.Host.tb_specKey_ok) (by decide +kernel) Go.Proofs.Tryz.Oct.tb_specToken_ok) (by decide +kernel) Go.Proofs.Tryz.Cfg.tb_specBounds_ok)
set_option maxRecDepth 100000 in
set_option maxHeartbeats 4000000 in
theorem specRight (nm au : List UInt8) (n0 n1 n2 n3 n4 n5 n6 n7 n8 n9 n10 n11 n12 n13 n14 n15 : Int) (hn : nm.length ≤ 1000000) (ha : au.length ≤ 1000000) : SpecE Tryz.prog 30 [] [.agg [.str nm, .str au, .int .i64 n0, .int .i64 n1, .int .i64 n2, .int .i64 n3, .int .i64 n4, .int .i64 n5, .int .i64 n6, .int .i64 n7, .int .i64 n8, .int .i64 n9, .int .i64 n10, .int .i64 n11, .int .i64 n12, .int .i64 n13, .int .i64 n14, .int .i64 n15]] [] (.int .i64 (cfgErr nm au (cfgL n0 n1 n2 n3 n4 n5 n6 n7 n8 n9 n10 n11 n12 n13 n14 n15))) := by
  refine specF0 (C := T_specRight) (wr := false) (D := fun _ => []) (U := fun _ => none) (res := [.int .i64 (cfgErr nm au (cfgL n0 n1 n2 n3 n4 n5 n6 n7 n8 n9 n10 n11 n12 n13 n14 n15))]) Tryz.Ty.mixed T_specRight_ok Tryz.func30 (nA := 1) (by decide +kernel) rfl (fun _ => rfl) ?_
  simp only [Tryz.f30, bodyOf, rlOf]
  rw [W_V]
  simp (config := {maxSteps := 2000000}) only [T_specRight, Go.Proofs.Tryz.Host.tb_specKey, Go.Proofs.Tryz.Oct.tb_specToken, Go.Proofs.Tryz.Cfg.tb_specBounds, go_sem, seval, cfz]
  (try simp (config := {maxSteps := 2000000}) only [gimp, impB, isT, go_sem, seval])
  refine ⟨ha, fun h => (cfgErr_name h).symm, fun h1 h2 => ⟨fun h3 h4 => (cfgErr_host h1 h2 h3 h4).symm, fun h3 => ?_⟩⟩
  rw [cfgErr_num h1 h2 h3]
  clear h1 h2 h3
  refine VL_inv (X := Int) (fun k => ⟨[(1, .ptr 32 0 0 1), (39, .agg [.ptr 32 0 2 1, .int .i64 0, .int .i64 1, .ptr 32 0 3 1, .int .i64 0, .int .i64 1, .ptr 32 0 4 1, .int .i64 0, .int .i64 1, .ptr 32 0 5 1, .int .i64 0, .int .i64 1, .ptr 32 0 6 1, .int .i64 1, .int .i64 65536, .ptr 32 0 7 1, .int .i64 1, .int .i64 65536, .ptr 32 0 8 1, .int .i64 0, .int .i64 100, .ptr 32 0 9 1, .int .i64 0, .int .i64 1073741824, .ptr 32 0 10 1, .int .i64 1, .int .i64 16, .ptr 32 0 11 1, .int .i64 1, .int .i64 16, .ptr 32 0 12 1, .int .i64 0, .int .i64 1, .ptr 32 0 13 1, .int .i64 16, .int .i64 65536, .ptr 32 0 14 1, .int .i64 1, .int .i64 1000, .ptr 32 0 15 1, .int .i64 3, .int .i64 4096, .ptr 32 0 16 1, .int .i64 0, .int .i64 1048576, .ptr 32 0 17 1, .int .i64 0, .int .i64 1]), (40, .int .i64 k)], [(32, .cells 18 false cfz [.agg [.str nm, .str au, .int .i64 n0, .int .i64 n1, .int .i64 n2, .int .i64 n3, .int .i64 n4, .int .i64 n5, .int .i64 n6, .int .i64 n7, .int .i64 n8, .int .i64 n9, .int .i64 n10, .int .i64 n11, .int .i64 n12, .int .i64 n13, .int .i64 n14, .int .i64 n15]])]⟩) (fun k => 0 ≤ k ∧ k ≤ 16 ∧ ∀ i : Nat, (i : Int) < k → cfgLo.getD i 0 ≤ (cfgL n0 n1 n2 n3 n4 n5 n6 n7 n8 n9 n10 n11 n12 n13 n14 n15).getD i 0 ∧ (cfgL n0 n1 n2 n3 n4 n5 n6 n7 n8 n9 n10 n11 n12 n13 n14 n15).getD i 0 ≤ cfgHi.getD i 0) (fun k => (16 - k).toNat) 0 ?_ ?_ ?_
  · simp only [T_specRight, Go.Proofs.Tryz.Host.tb_specKey, Go.Proofs.Tryz.Oct.tb_specToken, Go.Proofs.Tryz.Cfg.tb_specBounds, go_sem, seval, cfz]
    try rfl
  · exact ⟨by decide, by decide, fun i hi => by omega⟩
  rintro k ⟨hk0, hk, hn⟩
  have hc : k = 0 ∨ k = 1 ∨ k = 2 ∨ k = 3 ∨ k = 4 ∨ k = 5 ∨ k = 6 ∨ k = 7 ∨ k = 8 ∨ k = 9 ∨ k = 10 ∨ k = 11 ∨ k = 12 ∨ k = 13 ∨ k = 14 ∨ k = 15 ∨ k = 16 := by omega
  rcases hc with rfl | rfl | rfl | rfl | rfl | rfl | rfl | rfl | rfl | rfl | rfl | rfl | rfl | rfl | rfl | rfl | rfl
  all_goals simp (config := {maxSteps := 2000000}) only [T_specRight, Go.Proofs.Tryz.Host.tb_specKey, Go.Proofs.Tryz.Oct.tb_specToken, Go.Proofs.Tryz.Cfg.tb_specBounds, go_sem, seval, cfz]
  all_goals (try simp (config := {maxSteps := 2000000}) only [gimp, impB, isT, go_sem, seval])
  · refine ⟨fun h => cfgOk_out 0 (by decide) h, fun g1 g2 => ⟨1, rfl, ⟨by omega, by omega, cfg_next (k := 0) hn ⟨g1, g2⟩⟩, by decide⟩⟩
  · refine ⟨fun h => cfgOk_out 1 (by decide) h, fun g1 g2 => ⟨2, rfl, ⟨by omega, by omega, cfg_next (k := 1) hn ⟨g1, g2⟩⟩, by decide⟩⟩
  · refine ⟨fun h => cfgOk_out 2 (by decide) h, fun g1 g2 => ⟨3, rfl, ⟨by omega, by omega, cfg_next (k := 2) hn ⟨g1, g2⟩⟩, by decide⟩⟩
  · refine ⟨fun h => cfgOk_out 3 (by decide) h, fun g1 g2 => ⟨4, rfl, ⟨by omega, by omega, cfg_next (k := 3) hn ⟨g1, g2⟩⟩, by decide⟩⟩
  · refine ⟨fun h => cfgOk_out 4 (by decide) h, fun g1 g2 => ⟨5, rfl, ⟨by omega, by omega, cfg_next (k := 4) hn ⟨g1, g2⟩⟩, by decide⟩⟩
  · refine ⟨fun h => cfgOk_out 5 (by decide) h, fun g1 g2 => ⟨6, rfl, ⟨by omega, by omega, cfg_next (k := 5) hn ⟨g1, g2⟩⟩, by decide⟩⟩
  · refine ⟨fun h => cfgOk_out 6 (by decide) h, fun g1 g2 => ⟨7, rfl, ⟨by omega, by omega, cfg_next (k := 6) hn ⟨g1, g2⟩⟩, by decide⟩⟩
  · refine ⟨fun h => cfgOk_out 7 (by decide) h, fun g1 g2 => ⟨8, rfl, ⟨by omega, by omega, cfg_next (k := 7) hn ⟨g1, g2⟩⟩, by decide⟩⟩
  · refine ⟨fun h => cfgOk_out 8 (by decide) h, fun g1 g2 => ⟨9, rfl, ⟨by omega, by omega, cfg_next (k := 8) hn ⟨g1, g2⟩⟩, by decide⟩⟩
  · refine ⟨fun h => cfgOk_out 9 (by decide) h, fun g1 g2 => ⟨10, rfl, ⟨by omega, by omega, cfg_next (k := 9) hn ⟨g1, g2⟩⟩, by decide⟩⟩
  · refine ⟨fun h => cfgOk_out 10 (by decide) h, fun g1 g2 => ⟨11, rfl, ⟨by omega, by omega, cfg_next (k := 10) hn ⟨g1, g2⟩⟩, by decide⟩⟩
  · refine ⟨fun h => cfgOk_out 11 (by decide) h, fun g1 g2 => ⟨12, rfl, ⟨by omega, by omega, cfg_next (k := 11) hn ⟨g1, g2⟩⟩, by decide⟩⟩
  · refine ⟨fun h => cfgOk_out 12 (by decide) h, fun g1 g2 => ⟨13, rfl, ⟨by omega, by omega, cfg_next (k := 12) hn ⟨g1, g2⟩⟩, by decide⟩⟩
  · refine ⟨fun h => cfgOk_out 13 (by decide) h, fun g1 g2 => ⟨14, rfl, ⟨by omega, by omega, cfg_next (k := 13) hn ⟨g1, g2⟩⟩, by decide⟩⟩
  · refine ⟨fun h => cfgOk_out 14 (by decide) h, fun g1 g2 => ⟨15, rfl, ⟨by omega, by omega, cfg_next (k := 14) hn ⟨g1, g2⟩⟩, by decide⟩⟩
  · refine ⟨fun h => cfgOk_out 15 (by decide) h, fun g1 g2 => ⟨16, rfl, ⟨by omega, by omega, cfg_next (k := 15) hn ⟨g1, g2⟩⟩, by decide⟩⟩
  · exact cfgOk_in (fun i hi => hn i (by omega))
def tb_specRight : List Blk → List AV → Option (List Blk × AV × Prop)
  | [], [.agg [.str nm, .str au, .int .i64 n0, .int .i64 n1, .int .i64 n2, .int .i64 n3, .int .i64 n4, .int .i64 n5, .int .i64 n6, .int .i64 n7, .int .i64 n8, .int .i64 n9, .int .i64 n10, .int .i64 n11, .int .i64 n12, .int .i64 n13, .int .i64 n14, .int .i64 n15]] => some ([], .int .i64 (cfgErr nm au (cfgL n0 n1 n2 n3 n4 n5 n6 n7 n8 n9 n10 n11 n12 n13 n14 n15)), (nm.length ≤ 1000000) ∧ (au.length ≤ 1000000))
  | _, _ => none
theorem tb_specRight_ok : ∀ E args E' res p, tb_specRight E args = some (E', res, p) → p → SpecE Tryz.prog 30 E args E' res := by
  intro E args E' res p h hp
  unfold tb_specRight at h
  split at h
  · simp only [Option.some.injEq, Prod.mk.injEq] at h
    obtain ⟨rfl, rfl, rfl⟩ := h
    exact (specRight _ _ _ _ _ _ _ _ _ _ _ _ _ _ _ _ _ _ hp.1 hp.2)
  · cases h
def T_specUsual : Tbl := fun g E args => nilT g E args
theorem T_specUsual_ok : TblOK Tryz.prog T_specUsual := nilT_ok
set_option maxRecDepth 100000 in
set_option maxHeartbeats 4000000 in
theorem specUsual : SpecE Tryz.prog 29 [] [] [] (.agg [.str [97, 98, 117, 116, 109, 101, 110, 116], .str [], .int .i64 1, .int .i64 0, .int .i64 1, .int .i64 1, .int .i64 1024, .int .i64 4096, .int .i64 10, .int .i64 0, .int .i64 8, .int .i64 8, .int .i64 0, .int .i64 8192, .int .i64 100, .int .i64 256, .int .i64 65536, .int .i64 0]) := by
  refine specF0 (C := T_specUsual) (wr := false) (D := fun i => if i = 1 then [2] else []) (U := fun _ => none) (res := [.agg [.str [97, 98, 117, 116, 109, 101, 110, 116], .str [], .int .i64 1, .int .i64 0, .int .i64 1, .int .i64 1, .int .i64 1024, .int .i64 4096, .int .i64 10, .int .i64 0, .int .i64 8, .int .i64 8, .int .i64 0, .int .i64 8192, .int .i64 100, .int .i64 256, .int .i64 65536, .int .i64 0]]) Tryz.Ty.mixed T_specUsual_ok Tryz.func29 (nA := 0) (by decide +kernel) rfl (fun _ => rfl) ?_
  simp only [Tryz.f29, bodyOf, rlOf]
  rw [W_V]
  simp (config := {maxSteps := 2000000}) only [T_specUsual, go_sem, seval]
  (try simp (config := {maxSteps := 2000000}) only [gimp, impB, isT, go_sem, seval])
def tb_specUsual : List Blk → List AV → Option (List Blk × AV × Prop)
  | [], [] => some ([], .agg [.str [97, 98, 117, 116, 109, 101, 110, 116], .str [], .int .i64 1, .int .i64 0, .int .i64 1, .int .i64 1, .int .i64 1024, .int .i64 4096, .int .i64 10, .int .i64 0, .int .i64 8, .int .i64 8, .int .i64 0, .int .i64 8192, .int .i64 100, .int .i64 256, .int .i64 65536, .int .i64 0], True)
  | _, _ => none
theorem tb_specUsual_ok : ∀ E args E' res p, tb_specUsual E args = some (E', res, p) → p → SpecE Tryz.prog 29 E args E' res := by
  intro E args E' res p h hp
  unfold tb_specUsual at h
  split at h
  · simp only [Option.some.injEq, Prod.mk.injEq] at h
    obtain ⟨rfl, rfl, rfl⟩ := h
    exact specUsual
  · cases h
def T_specPrint : Tbl := fun g E args => (addT (addT (addT (addT nilT 30 Go.Proofs.Tryz.Cfg.tb_specRight) 46 Go.Proofs.Tryz.Cfg.tb_specBounds) 19 Go.Proofs.Tryz.Dig.tb_specText) 59 Go.Proofs.Tryz.Lib.tb_specJoin) g E args
theorem T_specPrint_ok : TblOK Tryz.prog T_specPrint := (addT_ok (addT_ok (addT_ok (addT_ok nilT_ok (by decide +kernel) Go.Proofs.Tryz.Cfg.tb_specRight_ok) (by decide +kernel) Go.Proofs.Tryz.Cfg.tb_specBounds_ok) (by decide +kernel) Go.Proofs.Tryz.Dig.tb_specText_ok) (by decide +kernel) Go.Proofs.Tryz.Lib.tb_specJoin_ok)
set_option maxRecDepth 100000 in
set_option maxHeartbeats 4000000 in
theorem specPrint (nm au : List UInt8) (n0 n1 n2 n3 n4 n5 n6 n7 n8 n9 n10 n11 n12 n13 n14 n15 : Int) (hn : nm.length ≤ 1000000) (ha : au.length ≤ 1000000) : SpecE Tryz.prog 28 [] [.agg [.str nm, .str au, .int .i64 n0, .int .i64 n1, .int .i64 n2, .int .i64 n3, .int .i64 n4, .int .i64 n5, .int .i64 n6, .int .i64 n7, .int .i64 n8, .int .i64 n9, .int .i64 n10, .int .i64 n11, .int .i64 n12, .int .i64 n13, .int .i64 n14, .int .i64 n15]] [] (.str (cfgText nm au (cfgL n0 n1 n2 n3 n4 n5 n6 n7 n8 n9 n10 n11 n12 n13 n14 n15))) := by
  refine specF0 (C := T_specPrint) (wr := false) (D := fun _ => []) (U := fun i => if i = 6 then some ⟨Unit, fun _ => ⟨[(1, .ptr 32 0 0 1), (3, .ref 224 0 2 2)], [(32, .cells 18 false cfz [.agg [.str nm, .str au, .int .i64 n0, .int .i64 n1, .int .i64 n2, .int .i64 n3, .int .i64 n4, .int .i64 n5, .int .i64 n6, .int .i64 n7, .int .i64 n8, .int .i64 n9, .int .i64 n10, .int .i64 n11, .int .i64 n12, .int .i64 n13, .int .i64 n14, .int .i64 n15]]), (224, .cells 1 false (.str []) [.str nm, .str (cfgAu au)])]⟩, fun _ => cfgErr nm au (cfgL n0 n1 n2 n3 n4 n5 n6 n7 n8 n9 n10 n11 n12 n13 n14 n15) = 0⟩ else none) (res := [.str (cfgText nm au (cfgL n0 n1 n2 n3 n4 n5 n6 n7 n8 n9 n10 n11 n12 n13 n14 n15))]) Tryz.Ty.mixed T_specPrint_ok Tryz.func28 (nA := 1) (by decide +kernel) rfl (fun _ => rfl) ?_
  simp only [Tryz.f28, bodyOf, rlOf]
  rw [W_V]
  simp (config := {maxSteps := 2000000}) only [T_specPrint, Go.Proofs.Tryz.Cfg.tb_specRight, Go.Proofs.Tryz.Cfg.tb_specBounds, Go.Proofs.Tryz.Dig.tb_specText, Go.Proofs.Tryz.Lib.tb_specJoin, go_sem, seval, cfz]
  (try simp (config := {maxSteps := 2000000}) only [gimp, impB, isT, go_sem, seval])
  refine ⟨⟨hn, ha⟩, fun h => by rw [cfgText, if_neg h], fun h => ⟨⟨fun e => ⟨(), by simp [cfgAu, e], h⟩, fun e => ⟨(), by simp [cfgAu, e], h⟩⟩, fun h => ?_⟩⟩
  obtain ⟨q1, q2, q3⟩ := cfgErr_ok h
  refine VL_inv (X := Int) (fun k => ⟨[(1, .ptr 32 0 0 1), (3, .ref 224 0 (cfgW nm au (cfgL n0 n1 n2 n3 n4 n5 n6 n7 n8 n9 n10 n11 n12 n13 n14 n15) k.toNat).length (cfgW nm au (cfgL n0 n1 n2 n3 n4 n5 n6 n7 n8 n9 n10 n11 n12 n13 n14 n15) k.toNat).length), (19, .agg [.ptr 32 0 2 1, .int .i64 0, .int .i64 1, .ptr 32 0 3 1, .int .i64 0, .int .i64 1, .ptr 32 0 4 1, .int .i64 0, .int .i64 1, .ptr 32 0 5 1, .int .i64 0, .int .i64 1, .ptr 32 0 6 1, .int .i64 1, .int .i64 65536, .ptr 32 0 7 1, .int .i64 1, .int .i64 65536, .ptr 32 0 8 1, .int .i64 0, .int .i64 100, .ptr 32 0 9 1, .int .i64 0, .int .i64 1073741824, .ptr 32 0 10 1, .int .i64 1, .int .i64 16, .ptr 32 0 11 1, .int .i64 1, .int .i64 16, .ptr 32 0 12 1, .int .i64 0, .int .i64 1, .ptr 32 0 13 1, .int .i64 16, .int .i64 65536, .ptr 32 0 14 1, .int .i64 1, .int .i64 1000, .ptr 32 0 15 1, .int .i64 3, .int .i64 4096, .ptr 32 0 16 1, .int .i64 0, .int .i64 1048576, .ptr 32 0 17 1, .int .i64 0, .int .i64 1]), (20, .int .i64 k)], [(32, .cells 18 false cfz [.agg [.str nm, .str au, .int .i64 n0, .int .i64 n1, .int .i64 n2, .int .i64 n3, .int .i64 n4, .int .i64 n5, .int .i64 n6, .int .i64 n7, .int .i64 n8, .int .i64 n9, .int .i64 n10, .int .i64 n11, .int .i64 n12, .int .i64 n13, .int .i64 n14, .int .i64 n15]]), (224, .cells 1 false (.str []) ((cfgW nm au (cfgL n0 n1 n2 n3 n4 n5 n6 n7 n8 n9 n10 n11 n12 n13 n14 n15) k.toNat).map .str))]⟩) (fun k => 0 ≤ k ∧ k ≤ 16) (fun k => (16 - k).toNat) 0 ?_ ?_ ?_
  · simp only [cfgW_zero, T_specPrint, Go.Proofs.Tryz.Cfg.tb_specRight, Go.Proofs.Tryz.Cfg.tb_specBounds, Go.Proofs.Tryz.Dig.tb_specText, Go.Proofs.Tryz.Lib.tb_specJoin, go_sem, seval, cfz]
    try rfl
  · exact ⟨by decide, by decide⟩
  rintro k ⟨hk0, hk⟩
  have hc : k = 0 ∨ k = 1 ∨ k = 2 ∨ k = 3 ∨ k = 4 ∨ k = 5 ∨ k = 6 ∨ k = 7 ∨ k = 8 ∨ k = 9 ∨ k = 10 ∨ k = 11 ∨ k = 12 ∨ k = 13 ∨ k = 14 ∨ k = 15 ∨ k = 16 := by omega
  rcases hc with rfl | rfl | rfl | rfl | rfl | rfl | rfl | rfl | rfl | rfl | rfl | rfl | rfl | rfl | rfl | rfl | rfl
  all_goals simp (config := {maxSteps := 2000000}) only [T_specPrint, Go.Proofs.Tryz.Cfg.tb_specRight, Go.Proofs.Tryz.Cfg.tb_specBounds, Go.Proofs.Tryz.Dig.tb_specText, Go.Proofs.Tryz.Lib.tb_specJoin, go_sem, seval, cfz]
  all_goals (try simp (config := {maxSteps := 2000000}) only [gimp, impB, isT, go_sem, seval])
  · obtain ⟨w1, w2, w3⟩ := cfgW_step nm au (cfgL_len n0 n1 n2 n3 n4 n5 n6 n7 n8 n9 n10 n11 n12 n13 n14 n15) 0 (by decide)
    exact ⟨cfg_range q3 0 (by decide), w1, 1, ⟨⟨w2, rfl⟩, w3⟩, ⟨by decide, by decide⟩, by decide⟩
  · obtain ⟨w1, w2, w3⟩ := cfgW_step nm au (cfgL_len n0 n1 n2 n3 n4 n5 n6 n7 n8 n9 n10 n11 n12 n13 n14 n15) 1 (by decide)
    exact ⟨cfg_range q3 1 (by decide), w1, 2, ⟨⟨w2, rfl⟩, w3⟩, ⟨by decide, by decide⟩, by decide⟩
  · obtain ⟨w1, w2, w3⟩ := cfgW_step nm au (cfgL_len n0 n1 n2 n3 n4 n5 n6 n7 n8 n9 n10 n11 n12 n13 n14 n15) 2 (by decide)
    exact ⟨cfg_range q3 2 (by decide), w1, 3, ⟨⟨w2, rfl⟩, w3⟩, ⟨by decide, by decide⟩, by decide⟩
  · obtain ⟨w1, w2, w3⟩ := cfgW_step nm au (cfgL_len n0 n1 n2 n3 n4 n5 n6 n7 n8 n9 n10 n11 n12 n13 n14 n15) 3 (by decide)
    exact ⟨cfg_range q3 3 (by decide), w1, 4, ⟨⟨w2, rfl⟩, w3⟩, ⟨by decide, by decide⟩, by decide⟩
  · obtain ⟨w1, w2, w3⟩ := cfgW_step nm au (cfgL_len n0 n1 n2 n3 n4 n5 n6 n7 n8 n9 n10 n11 n12 n13 n14 n15) 4 (by decide)
    exact ⟨cfg_range q3 4 (by decide), w1, 5, ⟨⟨w2, rfl⟩, w3⟩, ⟨by decide, by decide⟩, by decide⟩
  · obtain ⟨w1, w2, w3⟩ := cfgW_step nm au (cfgL_len n0 n1 n2 n3 n4 n5 n6 n7 n8 n9 n10 n11 n12 n13 n14 n15) 5 (by decide)
    exact ⟨cfg_range q3 5 (by decide), w1, 6, ⟨⟨w2, rfl⟩, w3⟩, ⟨by decide, by decide⟩, by decide⟩
  · obtain ⟨w1, w2, w3⟩ := cfgW_step nm au (cfgL_len n0 n1 n2 n3 n4 n5 n6 n7 n8 n9 n10 n11 n12 n13 n14 n15) 6 (by decide)
    exact ⟨cfg_range q3 6 (by decide), w1, 7, ⟨⟨w2, rfl⟩, w3⟩, ⟨by decide, by decide⟩, by decide⟩
  · obtain ⟨w1, w2, w3⟩ := cfgW_step nm au (cfgL_len n0 n1 n2 n3 n4 n5 n6 n7 n8 n9 n10 n11 n12 n13 n14 n15) 7 (by decide)
    exact ⟨cfg_range q3 7 (by decide), w1, 8, ⟨⟨w2, rfl⟩, w3⟩, ⟨by decide, by decide⟩, by decide⟩
  · obtain ⟨w1, w2, w3⟩ := cfgW_step nm au (cfgL_len n0 n1 n2 n3 n4 n5 n6 n7 n8 n9 n10 n11 n12 n13 n14 n15) 8 (by decide)
    exact ⟨cfg_range q3 8 (by decide), w1, 9, ⟨⟨w2, rfl⟩, w3⟩, ⟨by decide, by decide⟩, by decide⟩
  · obtain ⟨w1, w2, w3⟩ := cfgW_step nm au (cfgL_len n0 n1 n2 n3 n4 n5 n6 n7 n8 n9 n10 n11 n12 n13 n14 n15) 9 (by decide)
    exact ⟨cfg_range q3 9 (by decide), w1, 10, ⟨⟨w2, rfl⟩, w3⟩, ⟨by decide, by decide⟩, by decide⟩
  · obtain ⟨w1, w2, w3⟩ := cfgW_step nm au (cfgL_len n0 n1 n2 n3 n4 n5 n6 n7 n8 n9 n10 n11 n12 n13 n14 n15) 10 (by decide)
    exact ⟨cfg_range q3 10 (by decide), w1, 11, ⟨⟨w2, rfl⟩, w3⟩, ⟨by decide, by decide⟩, by decide⟩
  · obtain ⟨w1, w2, w3⟩ := cfgW_step nm au (cfgL_len n0 n1 n2 n3 n4 n5 n6 n7 n8 n9 n10 n11 n12 n13 n14 n15) 11 (by decide)
    exact ⟨cfg_range q3 11 (by decide), w1, 12, ⟨⟨w2, rfl⟩, w3⟩, ⟨by decide, by decide⟩, by decide⟩
  · obtain ⟨w1, w2, w3⟩ := cfgW_step nm au (cfgL_len n0 n1 n2 n3 n4 n5 n6 n7 n8 n9 n10 n11 n12 n13 n14 n15) 12 (by decide)
    exact ⟨cfg_range q3 12 (by decide), w1, 13, ⟨⟨w2, rfl⟩, w3⟩, ⟨by decide, by decide⟩, by decide⟩
  · obtain ⟨w1, w2, w3⟩ := cfgW_step nm au (cfgL_len n0 n1 n2 n3 n4 n5 n6 n7 n8 n9 n10 n11 n12 n13 n14 n15) 13 (by decide)
    exact ⟨cfg_range q3 13 (by decide), w1, 14, ⟨⟨w2, rfl⟩, w3⟩, ⟨by decide, by decide⟩, by decide⟩
  · obtain ⟨w1, w2, w3⟩ := cfgW_step nm au (cfgL_len n0 n1 n2 n3 n4 n5 n6 n7 n8 n9 n10 n11 n12 n13 n14 n15) 14 (by decide)
    exact ⟨cfg_range q3 14 (by decide), w1, 15, ⟨⟨w2, rfl⟩, w3⟩, ⟨by decide, by decide⟩, by decide⟩
  · obtain ⟨w1, w2, w3⟩ := cfgW_step nm au (cfgL_len n0 n1 n2 n3 n4 n5 n6 n7 n8 n9 n10 n11 n12 n13 n14 n15) 15 (by decide)
    exact ⟨cfg_range q3 15 (by decide), w1, 16, ⟨⟨w2, rfl⟩, w3⟩, ⟨by decide, by decide⟩, by decide⟩
  · have w := cfgW_len nm au (cfgL n0 n1 n2 n3 n4 n5 n6 n7 n8 n9 n10 n11 n12 n13 n14 n15) 16 (Nat.le_refl 16)
    have w2 := cfgW_all nm au (cfgL n0 n1 n2 n3 n4 n5 n6 n7 n8 n9 n10 n11 n12 n13 n14 n15)
    rw [cfgL_len] at w2
    have w3 := flat_text_len (cfgL n0 n1 n2 n3 n4 n5 n6 n7 n8 n9 n10 n11 n12 n13 n14 n15)
    rw [cfgL_len] at w3
    have w4 := cfgAu_len au
    rw [List.take_length, w2, w]
    refine ⟨⟨by decide, ?_⟩, by rw [cfgText, if_pos h]⟩
    rw [List.length_append, List.length_append, List.length_cons]
    omega
def tb_specPrint : List Blk → List AV → Option (List Blk × AV × Prop)
  | [], [.agg [.str nm, .str au, .int .i64 n0, .int .i64 n1, .int .i64 n2, .int .i64 n3, .int .i64 n4, .int .i64 n5, .int .i64 n6, .int .i64 n7, .int .i64 n8, .int .i64 n9, .int .i64 n10, .int .i64 n11, .int .i64 n12, .int .i64 n13, .int .i64 n14, .int .i64 n15]] => some ([], .str (cfgText nm au (cfgL n0 n1 n2 n3 n4 n5 n6 n7 n8 n9 n10 n11 n12 n13 n14 n15)), (nm.length ≤ 1000000) ∧ (au.length ≤ 1000000))
  | _, _ => none
theorem tb_specPrint_ok : ∀ E args E' res p, tb_specPrint E args = some (E', res, p) → p → SpecE Tryz.prog 28 E args E' res := by
  intro E args E' res p h hp
  unfold tb_specPrint at h
  split at h
  · simp only [Option.some.injEq, Prod.mk.injEq] at h
    obtain ⟨rfl, rfl, rfl⟩ := h
    exact (specPrint _ _ _ _ _ _ _ _ _ _ _ _ _ _ _ _ _ _ hp.1 hp.2)
  · cases h
def T_specNumbers : Tbl := fun g E args => nilT g E args
theorem T_specNumbers_ok : TblOK Tryz.prog T_specNumbers := nilT_ok
set_option maxRecDepth 100000 in
set_option maxHeartbeats 4000000 in
theorem specNumbers (nm au : List UInt8) (n0 n1 n2 n3 n4 n5 n6 n7 n8 n9 n10 n11 n12 n13 n14 n15 : Int) : SpecE Tryz.prog 67 [] [.agg [.str nm, .str au, .int .i64 n0, .int .i64 n1, .int .i64 n2, .int .i64 n3, .int .i64 n4, .int .i64 n5, .int .i64 n6, .int .i64 n7, .int .i64 n8, .int .i64 n9, .int .i64 n10, .int .i64 n11, .int .i64 n12, .int .i64 n13, .int .i64 n14, .int .i64 n15]] [] (enc_ints (cfgL n0 n1 n2 n3 n4 n5 n6 n7 n8 n9 n10 n11 n12 n13 n14 n15)) := by
  refine specF0 (C := T_specNumbers) (wr := false) (D := fun _ => []) (U := fun _ => none) (res := [enc_ints (cfgL n0 n1 n2 n3 n4 n5 n6 n7 n8 n9 n10 n11 n12 n13 n14 n15)]) Tryz.Ty.mixed T_specNumbers_ok Tryz.func67 (nA := 1) (by decide +kernel) rfl (fun _ => rfl) ?_
  simp only [Tryz.f67, bodyOf, rlOf]
  rw [W_V]
  simp (config := {maxSteps := 2000000}) only [T_specNumbers, go_sem, seval, cfgL]
  (try simp (config := {maxSteps := 2000000}) only [gimp, impB, isT, go_sem, seval])
def tb_specNumbers : List Blk → List AV → Option (List Blk × AV × Prop)
  | [], [.agg [.str nm, .str au, .int .i64 n0, .int .i64 n1, .int .i64 n2, .int .i64 n3, .int .i64 n4, .int .i64 n5, .int .i64 n6, .int .i64 n7, .int .i64 n8, .int .i64 n9, .int .i64 n10, .int .i64 n11, .int .i64 n12, .int .i64 n13, .int .i64 n14, .int .i64 n15]] => some ([], enc_ints (cfgL n0 n1 n2 n3 n4 n5 n6 n7 n8 n9 n10 n11 n12 n13 n14 n15), True)
  | _, _ => none
theorem tb_specNumbers_ok : ∀ E args E' res p, tb_specNumbers E args = some (E', res, p) → p → SpecE Tryz.prog 67 E args E' res := by
  intro E args E' res p h hp
  unfold tb_specNumbers at h
  split at h
  · simp only [Option.some.injEq, Prod.mk.injEq] at h
    obtain ⟨rfl, rfl, rfl⟩ := h
    exact (specNumbers _ _ _ _ _ _ _ _ _ _ _ _ _ _ _ _ _ _)
  · cases h
def T_specLeast : Tbl := fun g E args => nilT g E args
theorem T_specLeast_ok : TblOK Tryz.prog T_specLeast := nilT_ok
set_option maxRecDepth 100000 in
set_option maxHeartbeats 4000000 in
theorem specLeast : SpecE Tryz.prog 68 [] [] [] (enc_ints cfgLo) := by
  refine specF0 (C := T_specLeast) (wr := false) (D := fun _ => []) (U := fun _ => none) (res := [enc_ints cfgLo]) Tryz.Ty.mixed T_specLeast_ok Tryz.func68 (nA := 0) (by decide +kernel) rfl (fun _ => rfl) ?_
  simp only [Tryz.f68, bodyOf, rlOf]
  rw [W_V]
  simp (config := {maxSteps := 2000000}) only [T_specLeast, go_sem, seval, cfgLo]
  (try simp (config := {maxSteps := 2000000}) only [gimp, impB, isT, go_sem, seval])
def tb_specLeast : List Blk → List AV → Option (List Blk × AV × Prop)
  | [], [] => some ([], enc_ints cfgLo, True)
  | _, _ => none
theorem tb_specLeast_ok : ∀ E args E' res p, tb_specLeast E args = some (E', res, p) → p → SpecE Tryz.prog 68 E args E' res := by
  intro E args E' res p h hp
  unfold tb_specLeast at h
  split at h
  · simp only [Option.some.injEq, Prod.mk.injEq] at h
    obtain ⟨rfl, rfl, rfl⟩ := h
    exact specLeast
  · cases h
def T_specMost : Tbl := fun g E args => nilT g E args
theorem T_specMost_ok : TblOK Tryz.prog T_specMost := nilT_ok
set_option maxRecDepth 100000 in
set_option maxHeartbeats 4000000 in
theorem specMost : SpecE Tryz.prog 69 [] [] [] (enc_ints cfgHi) := by
  refine specF0 (C := T_specMost) (wr := false) (D := fun _ => []) (U := fun _ => none) (res := [enc_ints cfgHi]) Tryz.Ty.mixed T_specMost_ok Tryz.func69 (nA := 0) (by decide +kernel) rfl (fun _ => rfl) ?_
  simp only [Tryz.f69, bodyOf, rlOf]
  rw [W_V]
  simp (config := {maxSteps := 2000000}) only [T_specMost, go_sem, seval, cfgHi]
  (try simp (config := {maxSteps := 2000000}) only [gimp, impB, isT, go_sem, seval])
def tb_specMost : List Blk → List AV → Option (List Blk × AV × Prop)
  | [], [] => some ([], enc_ints cfgHi, True)
  | _, _ => none
theorem tb_specMost_ok : ∀ E args E' res p, tb_specMost E args = some (E', res, p) → p → SpecE Tryz.prog 69 E args E' res := by
  intro E args E' res p h hp
  unfold tb_specMost at h
  split at h
  · simp only [Option.some.injEq, Prod.mk.injEq] at h
    obtain ⟨rfl, rfl, rfl⟩ := h
    exact specMost
  · cases h
def T_specRightR : Tbl := fun g E args => (addT (addT (addT (addT (addT nilT 66 Go.Proofs.Tryz.Host.tb_specKeyR) 65 Go.Proofs.Tryz.Oct.tb_specTokenR) 67 Go.Proofs.Tryz.Cfg.tb_specNumbers) 68 Go.Proofs.Tryz.Cfg.tb_specLeast) 69 Go.Proofs.Tryz.Cfg.tb_specMost) g E args
theorem T_specRightR_ok : TblOK Tryz.prog T_specRightR := (addT_ok (addT_ok (addT_ok (addT_ok (addT_ok nilT_ok (by decide +kernel) Go.Proofs.Tryz.Host.tb_specKeyR_ok) (by decide +kernel) Go.Proofs.Tryz.Oct.tb_specTokenR_ok) (by decide +kernel) Go.Proofs.Tryz.Cfg.tb_specNumbers_ok) (by decide +kernel) Go.Proofs.Tryz.Cfg.tb_specLeast_ok) (by decide +kernel) Go.Proofs.Tryz.Cfg.tb_specMost_ok)
set_option maxRecDepth 100000 in
set_option maxHeartbeats 4000000 in
theorem specRightR (nm au : List UInt8) (n0 n1 n2 n3 n4 n5 n6 n7 n8 n9 n10 n11 n12 n13 n14 n15 : Int) (hn : nm.length ≤ 1000000) (ha : au.length ≤ 1000000) : SpecE Tryz.prog 34 [] [.agg [.str nm, .str au, .int .i64 n0, .int .i64 n1, .int .i64 n2, .int .i64 n3, .int .i64 n4, .int .i64 n5, .int .i64 n6, .int .i64 n7, .int .i64 n8, .int .i64 n9, .int .i64 n10, .int .i64 n11, .int .i64 n12, .int .i64 n13, .int .i64 n14, .int .i64 n15]] [] (.int .i64 (cfgErr nm au (cfgL n0 n1 n2 n3 n4 n5 n6 n7 n8 n9 n10 n11 n12 n13 n14 n15))) := by
  refine specF0 (C := T_specRightR) (wr := false) (D := fun _ => []) (U := fun _ => none) (res := [.int .i64 (cfgErr nm au (cfgL n0 n1 n2 n3 n4 n5 n6 n7 n8 n9 n10 n11 n12 n13 n14 n15))]) Tryz.Ty.mixed T_specRightR_ok Tryz.func34 (nA := 1) (by decide +kernel) rfl (fun _ => rfl) ?_
  simp only [Tryz.f34, bodyOf, rlOf]
  rw [W_V]
  simp (config := {maxSteps := 2000000}) only [T_specRightR, Go.Proofs.Tryz.Host.tb_specKeyR, Go.Proofs.Tryz.Oct.tb_specTokenR, Go.Proofs.Tryz.Cfg.tb_specNumbers, Go.Proofs.Tryz.Cfg.tb_specLeast, Go.Proofs.Tryz.Cfg.tb_specMost, go_sem, seval, cfgL_len, cfgLo_len, cfgHi_len]
  (try simp (config := {maxSteps := 2000000}) only [gimp, impB, isT, go_sem, seval])
  refine ⟨by omega, fun h => (cfgErr_name h).symm, fun h1 h2 => ⟨fun e => ⟨ha, fun h => ?_, fun g1 g2 g3 => ?_⟩, fun e => ?_⟩⟩
  · refine (cfgErr_host h1 h2 e ?_).symm
    rcases h with (h | h) | h
    · left; intro g
      rw [hostKey, if_neg (by simpa [hostKeyOk] using h)] at g
      exact e g.symm
    · exact .inl h
    · exact .inr h
  all_goals first
    | rw [cfgErr_num h1 h2 (by rw [decide_eq_true e]; rfl)]
    | rw [cfgErr_num h1 h2 (by rw [decide_eq_false e, decide_eq_true g2, decide_eq_false (Int.not_lt.2 g3)]; rfl)]
  all_goals clear h1 h2
  all_goals refine VL_inv (X := Nat) (fun k => ⟨[(5, enc_ints (cfgL n0 n1 n2 n3 n4 n5 n6 n7 n8 n9 n10 n11 n12 n13 n14 n15)), (6, enc_ints cfgLo), (7, enc_ints cfgHi), (8, .int .i64 k)], []⟩) (fun k => k ≤ 16 ∧ ∀ i : Nat, (i : Int) < (k : Int) → cfgLo.getD i 0 ≤ (cfgL n0 n1 n2 n3 n4 n5 n6 n7 n8 n9 n10 n11 n12 n13 n14 n15).getD i 0 ∧ (cfgL n0 n1 n2 n3 n4 n5 n6 n7 n8 n9 n10 n11 n12 n13 n14 n15).getD i 0 ≤ cfgHi.getD i 0) (fun k => 16 - k) 0 ?_ ?_ ?_
  · simp only [T_specRightR, Go.Proofs.Tryz.Host.tb_specKeyR, Go.Proofs.Tryz.Oct.tb_specTokenR, Go.Proofs.Tryz.Cfg.tb_specNumbers, Go.Proofs.Tryz.Cfg.tb_specLeast, Go.Proofs.Tryz.Cfg.tb_specMost, go_sem, seval, cfgL_len, cfgLo_len, cfgHi_len]
    try rfl
  · exact ⟨by decide, fun i hi => by omega⟩
  rotate_left
  · simp only [T_specRightR, Go.Proofs.Tryz.Host.tb_specKeyR, Go.Proofs.Tryz.Oct.tb_specTokenR, Go.Proofs.Tryz.Cfg.tb_specNumbers, Go.Proofs.Tryz.Cfg.tb_specLeast, Go.Proofs.Tryz.Cfg.tb_specMost, go_sem, seval, cfgL_len, cfgLo_len, cfgHi_len]
    try rfl
  · exact ⟨by decide, fun i hi => by omega⟩
  all_goals rintro k ⟨hk, hn⟩
  all_goals simp (config := {maxSteps := 2000000}) only [T_specRightR, Go.Proofs.Tryz.Host.tb_specKeyR, Go.Proofs.Tryz.Oct.tb_specTokenR, Go.Proofs.Tryz.Cfg.tb_specNumbers, Go.Proofs.Tryz.Cfg.tb_specLeast, Go.Proofs.Tryz.Cfg.tb_specMost, go_sem, seval, cfgL_len, cfgLo_len, cfgHi_len]
  all_goals (try simp (config := {maxSteps := 2000000}) only [gimp, impB, isT, go_sem, seval])
  all_goals exact ⟨fun hlt => ⟨by omega, by omega, ⟨fun _ => by omega, fun _ => by omega⟩, ⟨fun _ => by omega, fun _ => by omega⟩, fun h => cfgOk_out k (by omega) h, fun g1 g2 => ⟨by omega, k + 1, by omega, ⟨by omega, cfg_next hn ⟨g1, g2⟩⟩, by omega⟩⟩, fun hge => cfgOk_in (fun i hi => hn i (by omega))⟩
def tb_specRightR : List Blk → List AV → Option (List Blk × AV × Prop)
  | [], [.agg [.str nm, .str au, .int .i64 n0, .int .i64 n1, .int .i64 n2, .int .i64 n3, .int .i64 n4, .int .i64 n5, .int .i64 n6, .int .i64 n7, .int .i64 n8, .int .i64 n9, .int .i64 n10, .int .i64 n11, .int .i64 n12, .int .i64 n13, .int .i64 n14, .int .i64 n15]] => some ([], .int .i64 (cfgErr nm au (cfgL n0 n1 n2 n3 n4 n5 n6 n7 n8 n9 n10 n11 n12 n13 n14 n15)), (nm.length ≤ 1000000) ∧ (au.length ≤ 1000000))
  | _, _ => none
theorem tb_specRightR_ok : ∀ E args E' res p, tb_specRightR E args = some (E', res, p) → p → SpecE Tryz.prog 34 E args E' res := by
  intro E args E' res p h hp
  unfold tb_specRightR at h
  split at h
  · simp only [Option.some.injEq, Prod.mk.injEq] at h
    obtain ⟨rfl, rfl, rfl⟩ := h
    exact (specRightR _ _ _ _ _ _ _ _ _ _ _ _ _ _ _ _ _ _ hp.1 hp.2)
  · cases h
def T_specPrintR : Tbl := fun g E args => (addT (addT (addT nilT 34 Go.Proofs.Tryz.Cfg.tb_specRightR) 67 Go.Proofs.Tryz.Cfg.tb_specNumbers) 24 Go.Proofs.Tryz.Dig.tb_specTextR) g E args
theorem T_specPrintR_ok : TblOK Tryz.prog T_specPrintR := (addT_ok (addT_ok (addT_ok nilT_ok (by decide +kernel) Go.Proofs.Tryz.Cfg.tb_specRightR_ok) (by decide +kernel) Go.Proofs.Tryz.Cfg.tb_specNumbers_ok) (by decide +kernel) Go.Proofs.Tryz.Dig.tb_specTextR_ok)
set_option maxRecDepth 100000 in
set_option maxHeartbeats 4000000 in
theorem specPrintR (nm au : List UInt8) (n0 n1 n2 n3 n4 n5 n6 n7 n8 n9 n10 n11 n12 n13 n14 n15 : Int) (hn : nm.length ≤ 1000000) (ha : au.length ≤ 1000000) : SpecE Tryz.prog 39 [] [.agg [.str nm, .str au, .int .i64 n0, .int .i64 n1, .int .i64 n2, .int .i64 n3, .int .i64 n4, .int .i64 n5, .int .i64 n6, .int .i64 n7, .int .i64 n8, .int .i64 n9, .int .i64 n10, .int .i64 n11, .int .i64 n12, .int .i64 n13, .int .i64 n14, .int .i64 n15]] [] (.str (cfgText nm au (cfgL n0 n1 n2 n3 n4 n5 n6 n7 n8 n9 n10 n11 n12 n13 n14 n15))) := by
  refine specF0 (C := T_specPrintR) (wr := false) (D := fun _ => []) (U := fun i => if i = 6 then some ⟨Unit, fun _ => ⟨[(1, .ptr 32 0 0 1), (3, .str (nm ++ 32 :: cfgAu au))], [(32, .cells 18 false (.agg [.str [], .str [], .int .i64 0, .int .i64 0, .int .i64 0, .int .i64 0, .int .i64 0, .int .i64 0, .int .i64 0, .int .i64 0, .int .i64 0, .int .i64 0, .int .i64 0, .int .i64 0, .int .i64 0, .int .i64 0, .int .i64 0, .int .i64 0]) [.agg [.str nm, .str au, .int .i64 n0, .int .i64 n1, .int .i64 n2, .int .i64 n3, .int .i64 n4, .int .i64 n5, .int .i64 n6, .int .i64 n7, .int .i64 n8, .int .i64 n9, .int .i64 n10, .int .i64 n11, .int .i64 n12, .int .i64 n13, .int .i64 n14, .int .i64 n15]])]⟩, fun _ => cfgErr nm au (cfgL n0 n1 n2 n3 n4 n5 n6 n7 n8 n9 n10 n11 n12 n13 n14 n15) = 0⟩ else none) (res := [.str (cfgText nm au (cfgL n0 n1 n2 n3 n4 n5 n6 n7 n8 n9 n10 n11 n12 n13 n14 n15))]) Tryz.Ty.mixed T_specPrintR_ok Tryz.func39 (nA := 1) (by decide +kernel) rfl (fun _ => rfl) ?_
  simp only [Tryz.f39, bodyOf, rlOf]
  rw [W_V]
  simp (config := {maxSteps := 2000000}) only [T_specPrintR, Go.Proofs.Tryz.Cfg.tb_specRightR, Go.Proofs.Tryz.Cfg.tb_specNumbers, Go.Proofs.Tryz.Dig.tb_specTextR, go_sem, seval, cfgL_len, cfgLo_len, cfgHi_len]
  (try simp (config := {maxSteps := 2000000}) only [gimp, impB, isT, go_sem, seval])
  refine ⟨⟨hn, ha⟩, fun h => by rw [cfgText, if_neg h], fun h => ?_⟩
  obtain ⟨q1, q2, q3⟩ := cfgErr_ok h
  have q4 := cfgAu_len au
  refine ⟨by omega, by rw [List.length_append]; simp only [List.length_cons, List.length_nil]; omega, ⟨fun e => ⟨by rw [List.length_append, List.length_cons]; omega, (), by simp [cfgAu, e], h⟩, fun e => ⟨(), by simp [cfgAu, e], h⟩⟩, fun _ => ?_⟩
  refine VL_inv (X := Nat) (fun k => ⟨[(3, .str (nm ++ 32 :: cfgAu au ++ ((cfgL n0 n1 n2 n3 n4 n5 n6 n7 n8 n9 n10 n11 n12 n13 n14 n15).take k).flatMap fun n => 32 :: textI n)), (4, enc_ints (cfgL n0 n1 n2 n3 n4 n5 n6 n7 n8 n9 n10 n11 n12 n13 n14 n15)), (5, .int .i64 k)], []⟩) (fun k => k ≤ 16) (fun k => 16 - k) 0 ?_ ?_ ?_
  · simp only [List.take_zero, List.flatMap_nil, List.append_nil, T_specPrintR, Go.Proofs.Tryz.Cfg.tb_specRightR, Go.Proofs.Tryz.Cfg.tb_specNumbers, Go.Proofs.Tryz.Dig.tb_specTextR, go_sem, seval, cfgL_len, cfgLo_len, cfgHi_len]
    try rfl
  · exact Nat.zero_le _
  rintro k hk
  simp (config := {maxSteps := 2000000}) only [T_specPrintR, Go.Proofs.Tryz.Cfg.tb_specRightR, Go.Proofs.Tryz.Cfg.tb_specNumbers, Go.Proofs.Tryz.Dig.tb_specTextR, go_sem, seval, cfgL_len, cfgLo_len, cfgHi_len]
  (try simp (config := {maxSteps := 2000000}) only [gimp, impB, isT, go_sem, seval])
  have w1 := flat_text_len ((cfgL n0 n1 n2 n3 n4 n5 n6 n7 n8 n9 n10 n11 n12 n13 n14 n15).take k)
  have w2 : ((cfgL n0 n1 n2 n3 n4 n5 n6 n7 n8 n9 n10 n11 n12 n13 n14 n15).take k).length ≤ 16 := by rw [List.length_take]; exact Nat.le_trans (Nat.min_le_left _ _) hk
  have w3 := textI_len ((cfgL n0 n1 n2 n3 n4 n5 n6 n7 n8 n9 n10 n11 n12 n13 n14 n15).getD k 0)
  have w4 := fun h : k < 16 => flat_snoc (cfgL n0 n1 n2 n3 n4 n5 n6 n7 n8 n9 n10 n11 n12 n13 n14 n15) k h
  have w5 := fun h : k < 16 => cfg_range q3 k h
  refine ⟨fun hlt => ⟨?_, by omega, w5 (by omega), ?_, by omega, k + 1, ⟨by rw [w4 (by omega)], by omega⟩, by omega, by omega⟩, fun hge => ?_⟩
  · rw [List.length_append, List.length_cons, List.length_append]; omega
  · rw [List.length_append, List.length_cons, List.length_append, List.length_append]; simp only [List.length_cons, List.length_nil]; omega
  · have : k = 16 := by omega
    subst this
    rw [List.take_of_length_le (Nat.le_refl 16), cfgText, if_pos h]
    simp
def tb_specPrintR : List Blk → List AV → Option (List Blk × AV × Prop)
  | [], [.agg [.str nm, .str au, .int .i64 n0, .int .i64 n1, .int .i64 n2, .int .i64 n3, .int .i64 n4, .int .i64 n5, .int .i64 n6, .int .i64 n7, .int .i64 n8, .int .i64 n9, .int .i64 n10, .int .i64 n11, .int .i64 n12, .int .i64 n13, .int .i64 n14, .int .i64 n15]] => some ([], .str (cfgText nm au (cfgL n0 n1 n2 n3 n4 n5 n6 n7 n8 n9 n10 n11 n12 n13 n14 n15)), (nm.length ≤ 1000000) ∧ (au.length ≤ 1000000))
  | _, _ => none
theorem tb_specPrintR_ok : ∀ E args E' res p, tb_specPrintR E args = some (E', res, p) → p → SpecE Tryz.prog 39 E args E' res := by
  intro E args E' res p h hp
  unfold tb_specPrintR at h
  split at h
  · simp only [Option.some.injEq, Prod.mk.injEq] at h
    obtain ⟨rfl, rfl, rfl⟩ := h
    exact (specPrintR _ _ _ _ _ _ _ _ _ _ _ _ _ _ _ _ _ _ hp.1 hp.2)
  · cases h
end Go.Proofs.Tryz.Cfg
end
section
set_option linter.unusedVariables false
set_option linter.unusedSimpArgs false
namespace Go.Proofs.Tryz.Cfg
open Go Go.Abs Go.Proofs Go.Mdl
def T_specParse : Tbl := fun g E args => (addT (addT (addT (addT nilT 15 Go.Proofs.Tryz.Lib.tb_specSplit) 46 Go.Proofs.Tryz.Cfg.tb_specBounds) 28 Go.Proofs.Tryz.Cfg.tb_specPrint) 18 Go.Proofs.Tryz.Dig.tb_specDec) g E args
theorem T_specParse_ok : TblOK Tryz.prog T_specParse := (addT_ok (addT_ok (addT_ok (addT_ok nilT_ok (by decide +kernel) Go.Proofs.Tryz.Lib.tb_specSplit_ok) (by decide +kernel) Go.Proofs.Tryz.Cfg.tb_specBounds_ok) (by decide +kernel) Go.Proofs.Tryz.Cfg.tb_specPrint_ok) (by decide +kernel) Go.Proofs.Tryz.Dig.tb_specDec_ok)
set_option maxRecDepth 100000 in
set_option maxHeartbeats 4000000 in
theorem specParse (s : List UInt8) (hs : s.length ≤ 1000000) : SpecE Tryz.prog 17 [] [.str s] [] (.tuple [.agg [.str (cfgRN s), .str (cfgRA s), .int .i64 (cfgRI s 0), .int .i64 (cfgRI s 1), .int .i64 (cfgRI s 2), .int .i64 (cfgRI s 3), .int .i64 (cfgRI s 4), .int .i64 (cfgRI s 5), .int .i64 (cfgRI s 6), .int .i64 (cfgRI s 7), .int .i64 (cfgRI s 8), .int .i64 (cfgRI s 9), .int .i64 (cfgRI s 10), .int .i64 (cfgRI s 11), .int .i64 (cfgRI s 12), .int .i64 (cfgRI s 13), .int .i64 (cfgRI s 14), .int .i64 (cfgRI s 15)], .int .i64 (cfgRE s)]) := by
  refine specF0 (C := T_specParse) (wr := false) (D := fun i => if i = 6 then [7, 9] else if i = 12 then [18] else []) (U := fun i => if i = 9 then some ⟨Unit, fun _ => ⟨[(0, .str s), (2, .ptr 48 0 0 1), (4, enc_strs (splitB 32 s)), (5, .ptr 96 0 0 1), (6, .ptr 112 0 0 48)], [(96, .cells 18 false cfz [.agg [.str (cfgNm s), .str (cfgA1 s), .int .i64 0, .int .i64 0, .int .i64 0, .int .i64 0, .int .i64 0, .int .i64 0, .int .i64 0, .int .i64 0, .int .i64 0, .int .i64 0, .int .i64 0, .int .i64 0, .int .i64 0, .int .i64 0, .int .i64 0, .int .i64 0]]), (48, .cells 18 false cfz [cfz]), (112, .cells 1 false (.agg [.nilp, .int .i64 0, .int .i64 0]) [.ptr 96 0 2 1, .int .i64 0, .int .i64 1, .ptr 96 0 3 1, .int .i64 0, .int .i64 1, .ptr 96 0 4 1, .int .i64 0, .int .i64 1, .ptr 96 0 5 1, .int .i64 0, .int .i64 1, .ptr 96 0 6 1, .int .i64 1, .int .i64 65536, .ptr 96 0 7 1, .int .i64 1, .int .i64 65536, .ptr 96 0 8 1, .int .i64 0, .int .i64 100, .ptr 96 0 9 1, .int .i64 0, .int .i64 1073741824, .ptr 96 0 10 1, .int .i64 1, .int .i64 16, .ptr 96 0 11 1, .int .i64 1, .int .i64 16, .ptr 96 0 12 1, .int .i64 0, .int .i64 1, .ptr 96 0 13 1, .int .i64 16, .int .i64 65536, .ptr 96 0 14 1, .int .i64 1, .int .i64 1000, .ptr 96 0 15 1, .int .i64 3, .int .i64 4096, .ptr 96 0 16 1, .int .i64 0, .int .i64 1048576, .ptr 96 0 17 1, .int .i64 0, .int .i64 1])]⟩, fun _ => (splitB 32 s).length = 18⟩ else none) (res := [.agg [.str (cfgRN s), .str (cfgRA s), .int .i64 (cfgRI s 0), .int .i64 (cfgRI s 1), .int .i64 (cfgRI s 2), .int .i64 (cfgRI s 3), .int .i64 (cfgRI s 4), .int .i64 (cfgRI s 5), .int .i64 (cfgRI s 6), .int .i64 (cfgRI s 7), .int .i64 (cfgRI s 8), .int .i64 (cfgRI s 9), .int .i64 (cfgRI s 10), .int .i64 (cfgRI s 11), .int .i64 (cfgRI s 12), .int .i64 (cfgRI s 13), .int .i64 (cfgRI s 14), .int .i64 (cfgRI s 15)], .int .i64 (cfgRE s)]) Tryz.Ty.mixed T_specParse_ok Tryz.func17 (nA := 1) (by decide +kernel) rfl (fun _ => rfl) ?_
  simp only [Tryz.f17, bodyOf, rlOf]
  rw [W_V]
  simp (config := {maxSteps := 2000000}) only [T_specParse, Go.Proofs.Tryz.Lib.tb_specSplit, Go.Proofs.Tryz.Cfg.tb_specBounds, Go.Proofs.Tryz.Cfg.tb_specPrint, Go.Proofs.Tryz.Dig.tb_specDec, go_sem, seval, cfz, cfgK, one1]
  (try simp (config := {maxSteps := 2000000}) only [gimp, impB, isT, go_sem, seval])
  have bad : cfgHas cfgTo s = false → (.agg [.str [], .str [], .int .i64 0, .int .i64 0, .int .i64 0, .int .i64 0, .int .i64 0, .int .i64 0, .int .i64 0, .int .i64 0, .int .i64 0, .int .i64 0, .int .i64 0, .int .i64 0, .int .i64 0, .int .i64 0, .int .i64 0, .int .i64 0] : AV) = .agg [.str (cfgRN s), .str (cfgRA s), .int .i64 (cfgRI s 0), .int .i64 (cfgRI s 1), .int .i64 (cfgRI s 2), .int .i64 (cfgRI s 3), .int .i64 (cfgRI s 4), .int .i64 (cfgRI s 5), .int .i64 (cfgRI s 6), .int .i64 (cfgRI s 7), .int .i64 (cfgRI s 8), .int .i64 (cfgRI s 9), .int .i64 (cfgRI s 10), .int .i64 (cfgRI s 11), .int .i64 (cfgRI s 12), .int .i64 (cfgRI s 13), .int .i64 (cfgRI s 14), .int .i64 (cfgRI s 15)] ∧ (3 : Int) = cfgRE s := fun h => by
    have hi : ∀ i, cfgRI s i = 0 := fun i => by simp [cfgRI, h]
    simp only [hi, cfgRN, cfgRA, cfgRE, h, Bool.false_eq_true, if_false, and_self]
  have ha1 : (splitB 32 s).getD 1 [] = [45] → cfgA1 s = [] := fun h => by simp only [cfgA1, cfgW1, h, if_true]
  have ha2 : ¬ (splitB 32 s).getD 1 [] = [45] → cfgA1 s = (splitB 32 s).getD 1 [] := fun h => by rw [cfgA1, cfgW1, if_neg h]
  refine ⟨by omega, fun h => bad ?_, fun h => ⟨by omega, by omega, ⟨fun h1 => ⟨(), by rw [ha1 h1]; rfl, by omega⟩, fun h1 => ⟨(), by rw [ha2 h1]; rfl, by omega⟩⟩, fun h18 => ?_⟩⟩
  · simp only [cfgHas, Bool.and_eq_false_iff, decide_eq_false_iff_not]
    exact .inl (by omega)
  clear ha1 ha2
  refine VL_inv (X := Int) (fun k => ⟨[(0, .str s), (2, .ptr 48 0 0 1), (4, enc_strs (splitB 32 s)), (5, .ptr 96 0 0 1), (6, .ptr 112 0 0 48), (27, .int .i64 k)], [(96, .cells 18 false cfz [.agg [.str (cfgNm s), .str (cfgA1 s), .int .i64 (cfgK s k 0), .int .i64 (cfgK s k 1), .int .i64 (cfgK s k 2), .int .i64 (cfgK s k 3), .int .i64 (cfgK s k 4), .int .i64 (cfgK s k 5), .int .i64 (cfgK s k 6), .int .i64 (cfgK s k 7), .int .i64 (cfgK s k 8), .int .i64 (cfgK s k 9), .int .i64 (cfgK s k 10), .int .i64 (cfgK s k 11), .int .i64 (cfgK s k 12), .int .i64 (cfgK s k 13), .int .i64 (cfgK s k 14), .int .i64 (cfgK s k 15)]]), (48, .cells 18 false cfz [cfz]), (112, .cells 1 false (.agg [.nilp, .int .i64 0, .int .i64 0]) [.ptr 96 0 2 1, .int .i64 0, .int .i64 1, .ptr 96 0 3 1, .int .i64 0, .int .i64 1, .ptr 96 0 4 1, .int .i64 0, .int .i64 1, .ptr 96 0 5 1, .int .i64 0, .int .i64 1, .ptr 96 0 6 1, .int .i64 1, .int .i64 65536, .ptr 96 0 7 1, .int .i64 1, .int .i64 65536, .ptr 96 0 8 1, .int .i64 0, .int .i64 100, .ptr 96 0 9 1, .int .i64 0, .int .i64 1073741824, .ptr 96 0 10 1, .int .i64 1, .int .i64 16, .ptr 96 0 11 1, .int .i64 1, .int .i64 16, .ptr 96 0 12 1, .int .i64 0, .int .i64 1, .ptr 96 0 13 1, .int .i64 16, .int .i64 65536, .ptr 96 0 14 1, .int .i64 1, .int .i64 1000, .ptr 96 0 15 1, .int .i64 3, .int .i64 4096, .ptr 96 0 16 1, .int .i64 0, .int .i64 1048576, .ptr 96 0 17 1, .int .i64 0, .int .i64 1])]⟩) (fun k => 0 ≤ k ∧ k ≤ 16) (fun k => (16 - k).toNat) 0 ?_ ?_ ?_
  · simp only [T_specParse, Go.Proofs.Tryz.Lib.tb_specSplit, Go.Proofs.Tryz.Cfg.tb_specBounds, Go.Proofs.Tryz.Cfg.tb_specPrint, Go.Proofs.Tryz.Dig.tb_specDec, go_sem, seval, cfz, cfgK, one1]
  · exact ⟨by decide, by decide⟩
  rintro k ⟨hk0, hk⟩
  have hc : k = 0 ∨ k = 1 ∨ k = 2 ∨ k = 3 ∨ k = 4 ∨ k = 5 ∨ k = 6 ∨ k = 7 ∨ k = 8 ∨ k = 9 ∨ k = 10 ∨ k = 11 ∨ k = 12 ∨ k = 13 ∨ k = 14 ∨ k = 15 ∨ k = 16 := by omega
  rcases hc with rfl | rfl | rfl | rfl | rfl | rfl | rfl | rfl | rfl | rfl | rfl | rfl | rfl | rfl | rfl | rfl | rfl
  · simp (config := {maxSteps := 2000000}) only [T_specParse, Go.Proofs.Tryz.Lib.tb_specSplit, Go.Proofs.Tryz.Cfg.tb_specBounds, Go.Proofs.Tryz.Cfg.tb_specPrint, Go.Proofs.Tryz.Dig.tb_specDec, go_sem, seval, cfz, cfgK, one1]
    (try simp (config := {maxSteps := 2000000}) only [gimp, impB, isT, go_sem, seval])
    exact ⟨by omega, 1, ⟨rfl, rfl⟩, ⟨by decide, by decide⟩, by decide⟩
  · simp (config := {maxSteps := 2000000}) only [T_specParse, Go.Proofs.Tryz.Lib.tb_specSplit, Go.Proofs.Tryz.Cfg.tb_specBounds, Go.Proofs.Tryz.Cfg.tb_specPrint, Go.Proofs.Tryz.Dig.tb_specDec, go_sem, seval, cfz, cfgK, one1]
    (try simp (config := {maxSteps := 2000000}) only [gimp, impB, isT, go_sem, seval])
    exact ⟨by omega, 2, ⟨rfl, rfl⟩, ⟨by decide, by decide⟩, by decide⟩
  · simp (config := {maxSteps := 2000000}) only [T_specParse, Go.Proofs.Tryz.Lib.tb_specSplit, Go.Proofs.Tryz.Cfg.tb_specBounds, Go.Proofs.Tryz.Cfg.tb_specPrint, Go.Proofs.Tryz.Dig.tb_specDec, go_sem, seval, cfz, cfgK, one1]
    (try simp (config := {maxSteps := 2000000}) only [gimp, impB, isT, go_sem, seval])
    exact ⟨by omega, 3, ⟨rfl, rfl⟩, ⟨by decide, by decide⟩, by decide⟩
  · simp (config := {maxSteps := 2000000}) only [T_specParse, Go.Proofs.Tryz.Lib.tb_specSplit, Go.Proofs.Tryz.Cfg.tb_specBounds, Go.Proofs.Tryz.Cfg.tb_specPrint, Go.Proofs.Tryz.Dig.tb_specDec, go_sem, seval, cfz, cfgK, one1]
    (try simp (config := {maxSteps := 2000000}) only [gimp, impB, isT, go_sem, seval])
    exact ⟨by omega, 4, ⟨rfl, rfl⟩, ⟨by decide, by decide⟩, by decide⟩
  · simp (config := {maxSteps := 2000000}) only [T_specParse, Go.Proofs.Tryz.Lib.tb_specSplit, Go.Proofs.Tryz.Cfg.tb_specBounds, Go.Proofs.Tryz.Cfg.tb_specPrint, Go.Proofs.Tryz.Dig.tb_specDec, go_sem, seval, cfz, cfgK, one1]
    (try simp (config := {maxSteps := 2000000}) only [gimp, impB, isT, go_sem, seval])
    exact ⟨by omega, 5, ⟨rfl, rfl⟩, ⟨by decide, by decide⟩, by decide⟩
  · simp (config := {maxSteps := 2000000}) only [T_specParse, Go.Proofs.Tryz.Lib.tb_specSplit, Go.Proofs.Tryz.Cfg.tb_specBounds, Go.Proofs.Tryz.Cfg.tb_specPrint, Go.Proofs.Tryz.Dig.tb_specDec, go_sem, seval, cfz, cfgK, one1]
    (try simp (config := {maxSteps := 2000000}) only [gimp, impB, isT, go_sem, seval])
    exact ⟨by omega, 6, ⟨rfl, rfl⟩, ⟨by decide, by decide⟩, by decide⟩
  · simp (config := {maxSteps := 2000000}) only [T_specParse, Go.Proofs.Tryz.Lib.tb_specSplit, Go.Proofs.Tryz.Cfg.tb_specBounds, Go.Proofs.Tryz.Cfg.tb_specPrint, Go.Proofs.Tryz.Dig.tb_specDec, go_sem, seval, cfz, cfgK, one1]
    (try simp (config := {maxSteps := 2000000}) only [gimp, impB, isT, go_sem, seval])
    exact ⟨by omega, 7, ⟨rfl, rfl⟩, ⟨by decide, by decide⟩, by decide⟩
  · simp (config := {maxSteps := 2000000}) only [T_specParse, Go.Proofs.Tryz.Lib.tb_specSplit, Go.Proofs.Tryz.Cfg.tb_specBounds, Go.Proofs.Tryz.Cfg.tb_specPrint, Go.Proofs.Tryz.Dig.tb_specDec, go_sem, seval, cfz, cfgK, one1]
    (try simp (config := {maxSteps := 2000000}) only [gimp, impB, isT, go_sem, seval])
    exact ⟨by omega, 8, ⟨rfl, rfl⟩, ⟨by decide, by decide⟩, by decide⟩
  · simp (config := {maxSteps := 2000000}) only [T_specParse, Go.Proofs.Tryz.Lib.tb_specSplit, Go.Proofs.Tryz.Cfg.tb_specBounds, Go.Proofs.Tryz.Cfg.tb_specPrint, Go.Proofs.Tryz.Dig.tb_specDec, go_sem, seval, cfz, cfgK, one1]
    (try simp (config := {maxSteps := 2000000}) only [gimp, impB, isT, go_sem, seval])
    exact ⟨by omega, 9, ⟨rfl, rfl⟩, ⟨by decide, by decide⟩, by decide⟩
  · simp (config := {maxSteps := 2000000}) only [T_specParse, Go.Proofs.Tryz.Lib.tb_specSplit, Go.Proofs.Tryz.Cfg.tb_specBounds, Go.Proofs.Tryz.Cfg.tb_specPrint, Go.Proofs.Tryz.Dig.tb_specDec, go_sem, seval, cfz, cfgK, one1]
    (try simp (config := {maxSteps := 2000000}) only [gimp, impB, isT, go_sem, seval])
    exact ⟨by omega, 10, ⟨rfl, rfl⟩, ⟨by decide, by decide⟩, by decide⟩
  · simp (config := {maxSteps := 2000000}) only [T_specParse, Go.Proofs.Tryz.Lib.tb_specSplit, Go.Proofs.Tryz.Cfg.tb_specBounds, Go.Proofs.Tryz.Cfg.tb_specPrint, Go.Proofs.Tryz.Dig.tb_specDec, go_sem, seval, cfz, cfgK, one1]
    (try simp (config := {maxSteps := 2000000}) only [gimp, impB, isT, go_sem, seval])
    exact ⟨by omega, 11, ⟨rfl, rfl⟩, ⟨by decide, by decide⟩, by decide⟩
  · simp (config := {maxSteps := 2000000}) only [T_specParse, Go.Proofs.Tryz.Lib.tb_specSplit, Go.Proofs.Tryz.Cfg.tb_specBounds, Go.Proofs.Tryz.Cfg.tb_specPrint, Go.Proofs.Tryz.Dig.tb_specDec, go_sem, seval, cfz, cfgK, one1]
    (try simp (config := {maxSteps := 2000000}) only [gimp, impB, isT, go_sem, seval])
    exact ⟨by omega, 12, ⟨rfl, rfl⟩, ⟨by decide, by decide⟩, by decide⟩
  · simp (config := {maxSteps := 2000000}) only [T_specParse, Go.Proofs.Tryz.Lib.tb_specSplit, Go.Proofs.Tryz.Cfg.tb_specBounds, Go.Proofs.Tryz.Cfg.tb_specPrint, Go.Proofs.Tryz.Dig.tb_specDec, go_sem, seval, cfz, cfgK, one1]
    (try simp (config := {maxSteps := 2000000}) only [gimp, impB, isT, go_sem, seval])
    exact ⟨by omega, 13, ⟨rfl, rfl⟩, ⟨by decide, by decide⟩, by decide⟩
  · simp (config := {maxSteps := 2000000}) only [T_specParse, Go.Proofs.Tryz.Lib.tb_specSplit, Go.Proofs.Tryz.Cfg.tb_specBounds, Go.Proofs.Tryz.Cfg.tb_specPrint, Go.Proofs.Tryz.Dig.tb_specDec, go_sem, seval, cfz, cfgK, one1]
    (try simp (config := {maxSteps := 2000000}) only [gimp, impB, isT, go_sem, seval])
    exact ⟨by omega, 14, ⟨rfl, rfl⟩, ⟨by decide, by decide⟩, by decide⟩
  · simp (config := {maxSteps := 2000000}) only [T_specParse, Go.Proofs.Tryz.Lib.tb_specSplit, Go.Proofs.Tryz.Cfg.tb_specBounds, Go.Proofs.Tryz.Cfg.tb_specPrint, Go.Proofs.Tryz.Dig.tb_specDec, go_sem, seval, cfz, cfgK, one1]
    (try simp (config := {maxSteps := 2000000}) only [gimp, impB, isT, go_sem, seval])
    exact ⟨by omega, 15, ⟨rfl, rfl⟩, ⟨by decide, by decide⟩, by decide⟩
  · simp (config := {maxSteps := 2000000}) only [T_specParse, Go.Proofs.Tryz.Lib.tb_specSplit, Go.Proofs.Tryz.Cfg.tb_specBounds, Go.Proofs.Tryz.Cfg.tb_specPrint, Go.Proofs.Tryz.Dig.tb_specDec, go_sem, seval, cfz, cfgK, one1]
    (try simp (config := {maxSteps := 2000000}) only [gimp, impB, isT, go_sem, seval])
    exact ⟨by omega, 16, ⟨rfl, rfl⟩, ⟨by decide, by decide⟩, by decide⟩
  · simp (config := {maxSteps := 2000000}) only [T_specParse, Go.Proofs.Tryz.Lib.tb_specSplit, Go.Proofs.Tryz.Cfg.tb_specBounds, Go.Proofs.Tryz.Cfg.tb_specPrint, Go.Proofs.Tryz.Dig.tb_specDec, go_sem, seval, cfz, cfgK, one1]
    (try simp (config := {maxSteps := 2000000}) only [gimp, impB, isT, go_sem, seval])
    have l0 : (cfgNm s).length ≤ s.length := getD_split_len 32 s 0
    have l1 : (cfgA1 s).length ≤ s.length := by
      unfold cfgA1
      split
      · simp
      · exact getD_split_len 32 s 1
    refine ⟨⟨fun _ => by omega, fun _ => by omega⟩, fun hb => bad ?_, fun h1 h2 => ?_⟩
    · simp only [cfgHas, Bool.and_eq_false_iff, Bool.not_eq_false', decide_eq_false_iff_not, decide_eq_true_eq]
      exact .inr hb
    · have hh : cfgHas cfgTo s = true := by
        simp only [cfgHas, Bool.and_eq_true, Bool.not_eq_true', decide_eq_false_iff_not, decide_eq_true_eq]
        exact ⟨h18, h1, h2⟩
      simp only [cfgRN, cfgRA, cfgRI, cfgRE, hh, if_true]
      exact ⟨trivial, trivial⟩
def tb_specParse : List Blk → List AV → Option (List Blk × AV × Prop)
  | [], [.str s] => some ([], .tuple [.agg [.str (cfgRN s), .str (cfgRA s), .int .i64 (cfgRI s 0), .int .i64 (cfgRI s 1), .int .i64 (cfgRI s 2), .int .i64 (cfgRI s 3), .int .i64 (cfgRI s 4), .int .i64 (cfgRI s 5), .int .i64 (cfgRI s 6), .int .i64 (cfgRI s 7), .int .i64 (cfgRI s 8), .int .i64 (cfgRI s 9), .int .i64 (cfgRI s 10), .int .i64 (cfgRI s 11), .int .i64 (cfgRI s 12), .int .i64 (cfgRI s 13), .int .i64 (cfgRI s 14), .int .i64 (cfgRI s 15)], .int .i64 (cfgRE s)], (s.length ≤ 1000000))
  | _, _ => none
theorem tb_specParse_ok : ∀ E args E' res p, tb_specParse E args = some (E', res, p) → p → SpecE Tryz.prog 17 E args E' res := by
  intro E args E' res p h hp
  unfold tb_specParse at h
  split at h
  · simp only [Option.some.injEq, Prod.mk.injEq] at h
    obtain ⟨rfl, rfl, rfl⟩ := h
    exact (specParse _ hp)
  · cases h
end Go.Proofs.Tryz.Cfg
end
section
set_option linter.unusedVariables false
set_option linter.unusedSimpArgs false
namespace Go.Proofs.Tryz.Cfg
open Go Go.Abs Go.Proofs Go.Mdl
theorem split_step {s : List UInt8} {i f : Nat} (hi : i < s.length) (hf : f ≤ i) (hc : s.getD i 0 = 32) (hn : ∀ x ∈ (s.take i).drop f, x ≠ 32) : splitB 32 (s.drop f) = (s.take i).drop f :: splitB 32 (s.drop (i + 1)) := by
  have e : s.drop f = (s.take i).drop f ++ 32 :: s.drop (i + 1) := by
    have h1 : s = s.take i ++ s.drop i := (List.take_append_drop i s).symm
    have h2 : s.drop i = 32 :: s.drop (i + 1) := by
      rw [List.drop_eq_getElem_cons hi]
      congr 1
      rw [List.getD_eq_getElem?_getD, List.getElem?_eq_getElem hi] at hc
      exact hc
    conv => lhs; rw [h1]
    rw [List.drop_append_of_le_length (by rw [List.length_take]; omega), h2]
  rw [e, splitB_app hn]
theorem free_next {s : List UInt8} {i f : Nat} (hi : i < s.length) (hf : f ≤ i) (hc : ¬ s.getD i 0 = 32) (hn : ∀ x ∈ (s.take i).drop f, x ≠ 32) : ∀ x ∈ (s.take (i + 1)).drop f, x ≠ 32 := by
  intro x hx
  rw [take_succ_getD 0 hi, List.drop_append_of_le_length (by rw [List.length_take]; omega)] at hx
  rcases List.mem_append.1 hx with hx | hx
  · exact hn x hx
  · simp only [List.mem_singleton] at hx
    subst hx; exact hc
def T_specWords : Tbl := fun g E args => nilT g E args
theorem T_specWords_ok : TblOK Tryz.prog T_specWords := nilT_ok
set_option maxRecDepth 100000 in
set_option maxHeartbeats 4000000 in
theorem specWords (s : List UInt8) (hs : s.length ≤ 1000000) : SpecE Tryz.prog 51 [] [.str s] [] (enc_strs (splitB 32 s)) := by
  refine specF0 (C := T_specWords) (wr := false) (D := fun _ => []) (U := fun _ => none) (res := [enc_strs (splitB 32 s)]) Tryz.Ty.mixed T_specWords_ok Tryz.func51 (nA := 1) (by decide +kernel) rfl (fun _ => rfl) ?_
  simp only [Tryz.f51, bodyOf, rlOf]
  rw [W_V]
  simp (config := {maxSteps := 2000000}) only [T_specWords, go_sem, seval]
  (try simp (config := {maxSteps := 2000000}) only [gimp, impB, isT, go_sem, seval])
  refine VL_inv (X := Nat × Nat × List (List UInt8)) (fun x => ⟨[(0, .str s), (3, .ref 112 0 x.2.2.length x.2.2.length), (4, .int .i64 x.2.1), (5, .int .i64 x.1)], [(112, .cells 1 false (.str []) (x.2.2.map .str))]⟩)
    (fun x => x.1 ≤ s.length ∧ x.2.1 ≤ x.1 ∧ x.2.2.length ≤ x.2.1 ∧ splitB 32 s = x.2.2 ++ splitB 32 (s.drop x.2.1) ∧ ∀ c ∈ (s.take x.1).drop x.2.1, c ≠ 32) (fun x => s.length - x.1) (0, 0, []) ?_ ?_ ?_
  · simp only [T_specWords, go_sem, seval]
    try rfl
  · exact ⟨Nat.zero_le _, Nat.le_refl _, Nat.le_refl _, rfl, by simp⟩
  rintro ⟨i, f, o⟩ ⟨i1, i2, i3, i4, i5⟩
  simp only at i1 i2 i3 i4 i5
  simp (config := {maxSteps := 2000000}) only [T_specWords, go_sem, seval]
  (try simp (config := {maxSteps := 2000000}) only [gimp, impB, isT, go_sem, seval])
  have sn : ∀ t, o.map AV.str ++ [AV.str t] = (o ++ [t]).map AV.str := fun t => by rw [List.map_append]; rfl
  simp only [sn]
  have dl : (s.drop i).length = s.length - i := List.length_drop ..
  refine ⟨fun hlt => ⟨by omega, fun hc => ⟨by omega, ⟨by omega, by omega⟩, by omega, by omega, (i + 1, i + 1, o ++ [(s.take i).drop f]), ⟨⟨by simp, by simp, by simp⟩, rfl⟩, ⟨by simp only; omega, Nat.le_refl _, by simp only [List.length_append, List.length_singleton]; omega, ?_, ?_⟩, by simp only; omega⟩, fun hc => ⟨by omega, (i + 1, f, o), ⟨⟨rfl, rfl, by simp⟩, rfl⟩, ⟨by simp only; omega, by simp only; omega, by simp only; omega, i4, free_next (by omega) i2 hc i5⟩, by simp only; omega⟩⟩, fun hge => ⟨by omega, ⟨by omega, by omega⟩, ?_, by simp⟩⟩
  · simp only; rw [i4, split_step (by omega) i2 hc i5, List.append_assoc]; rfl
  · simp only
    rw [List.drop_eq_nil_of_le (by rw [List.length_take]; omega)]
    simp
  · have e : i = s.length := by omega
    subst e
    rw [List.take_length] at i5
    rw [i4, splitB_no i5, List.take_of_length_le (by simp)]
def tb_specWords : List Blk → List AV → Option (List Blk × AV × Prop)
  | [], [.str s] => some ([], enc_strs (splitB 32 s), (s.length ≤ 1000000))
  | _, _ => none
theorem tb_specWords_ok : ∀ E args E' res p, tb_specWords E args = some (E', res, p) → p → SpecE Tryz.prog 51 E args E' res := by
  intro E args E' res p h hp
  unfold tb_specWords at h
  split at h
  · simp only [Option.some.injEq, Prod.mk.injEq] at h
    obtain ⟨rfl, rfl, rfl⟩ := h
    exact (specWords _ hp)
  · cases h
def T_specParseR : Tbl := fun g E args => (addT (addT (addT nilT 51 Go.Proofs.Tryz.Cfg.tb_specWords) 39 Go.Proofs.Tryz.Cfg.tb_specPrintR) 23 Go.Proofs.Tryz.Dig.tb_specNumberR) g E args
theorem T_specParseR_ok : TblOK Tryz.prog T_specParseR := (addT_ok (addT_ok (addT_ok nilT_ok (by decide +kernel) Go.Proofs.Tryz.Cfg.tb_specWords_ok) (by decide +kernel) Go.Proofs.Tryz.Cfg.tb_specPrintR_ok) (by decide +kernel) Go.Proofs.Tryz.Dig.tb_specNumberR_ok)
set_option maxRecDepth 100000 in
set_option maxHeartbeats 4000000 in
theorem specParseR (s : List UInt8) (hs : s.length ≤ 1000000) : SpecE Tryz.prog 22 [] [.str s] [] (.tuple [.agg [.str (cfgRN s), .str (cfgRA s), .int .i64 (cfgRI s 0), .int .i64 (cfgRI s 1), .int .i64 (cfgRI s 2), .int .i64 (cfgRI s 3), .int .i64 (cfgRI s 4), .int .i64 (cfgRI s 5), .int .i64 (cfgRI s 6), .int .i64 (cfgRI s 7), .int .i64 (cfgRI s 8), .int .i64 (cfgRI s 9), .int .i64 (cfgRI s 10), .int .i64 (cfgRI s 11), .int .i64 (cfgRI s 12), .int .i64 (cfgRI s 13), .int .i64 (cfgRI s 14), .int .i64 (cfgRI s 15)], .int .i64 (cfgRE s)]) := by
  refine specF0 (C := T_specParseR) (wr := false) (D := fun i => if i = 10 then [40, 41, 410272, 20272, 30272, 50272, 60272, 80272, 90272, 110272, 120272, 140272, 150272, 170272, 180272, 200272, 210272, 230272, 240272, 260272, 270272, 290272, 300272, 320272, 330272, 350272, 360272, 380272, 390272] else if i = 11 then [17] else []) (U := fun _ => none) (res := [.agg [.str (cfgRN s), .str (cfgRA s), .int .i64 (cfgRI s 0), .int .i64 (cfgRI s 1), .int .i64 (cfgRI s 2), .int .i64 (cfgRI s 3), .int .i64 (cfgRI s 4), .int .i64 (cfgRI s 5), .int .i64 (cfgRI s 6), .int .i64 (cfgRI s 7), .int .i64 (cfgRI s 8), .int .i64 (cfgRI s 9), .int .i64 (cfgRI s 10), .int .i64 (cfgRI s 11), .int .i64 (cfgRI s 12), .int .i64 (cfgRI s 13), .int .i64 (cfgRI s 14), .int .i64 (cfgRI s 15)], .int .i64 (cfgRE s)]) Tryz.Ty.mixed T_specParseR_ok Tryz.func22 (nA := 1) (by decide +kernel) rfl (fun _ => rfl) ?_
  simp only [Tryz.f22, bodyOf, rlOf]
  rw [W_V]
  simp (config := {maxSteps := 2000000}) only [T_specParseR, Go.Proofs.Tryz.Cfg.tb_specWords, Go.Proofs.Tryz.Cfg.tb_specPrintR, Go.Proofs.Tryz.Dig.tb_specNumberR, go_sem, seval, cfz, one1, cfgNs, cfgL]
  (try simp (config := {maxSteps := 2000000}) only [gimp, impB, isT, go_sem, seval])
  have bad : cfgHas cfgTo s = false → (.agg [.str [], .str [], .int .i64 0, .int .i64 0, .int .i64 0, .int .i64 0, .int .i64 0, .int .i64 0, .int .i64 0, .int .i64 0, .int .i64 0, .int .i64 0, .int .i64 0, .int .i64 0, .int .i64 0, .int .i64 0, .int .i64 0, .int .i64 0] : AV) = .agg [.str (cfgRN s), .str (cfgRA s), .int .i64 (cfgRI s 0), .int .i64 (cfgRI s 1), .int .i64 (cfgRI s 2), .int .i64 (cfgRI s 3), .int .i64 (cfgRI s 4), .int .i64 (cfgRI s 5), .int .i64 (cfgRI s 6), .int .i64 (cfgRI s 7), .int .i64 (cfgRI s 8), .int .i64 (cfgRI s 9), .int .i64 (cfgRI s 10), .int .i64 (cfgRI s 11), .int .i64 (cfgRI s 12), .int .i64 (cfgRI s 13), .int .i64 (cfgRI s 14), .int .i64 (cfgRI s 15)] ∧ (3 : Int) = cfgRE s := fun h => by
    have hi : ∀ i, cfgRI s i = 0 := fun i => by simp [cfgRI, h]
    simp only [hi, cfgRN, cfgRA, cfgRE, h, Bool.false_eq_true, if_false, and_self]
  refine ⟨hs, fun h => bad ?_, fun h => ?_⟩
  · simp only [cfgHas, Bool.and_eq_false_iff, decide_eq_false_iff_not]
    exact .inl (by omega)
  refine VL_inv (X := Nat) (fun k => ⟨[(0, .str s), (2, .ptr 48 0 0 1), (4, enc_strs (splitB 32 s)), (5, .ref 272 0 k k), (6, .int .i64 ((k + 2 : Nat) : Int))], [(272, .cells 1 false (.int .i64 0) (((cfgNs cfgMax s).take k).map (.int .i64))), (48, .cells 18 false cfz [cfz])]⟩) (fun k => k ≤ 16) (fun k => 16 - k) 0 ?_ ?_ ?_
  · simp only [T_specParseR, Go.Proofs.Tryz.Cfg.tb_specWords, Go.Proofs.Tryz.Cfg.tb_specPrintR, Go.Proofs.Tryz.Dig.tb_specNumberR, go_sem, seval, cfz, one1, cfgNs, cfgL]
    try rfl
  · exact Nat.zero_le _
  intro k hk
  by_cases hk2 : k < 16
  · have tl : ((cfgNs cfgMax s).take k).length = k := by rw [List.length_take, cfgNs_len]; omega
    have ts := take_succ_getD (s := cfgNs cfgMax s) (x := k) 0 (by rw [cfgNs_len]; exact hk2)
    rw [cfgNs_get _ _ _ hk2] at ts
    generalize (cfgNs cfgMax s) = L at *
    simp (config := {maxSteps := 2000000}) only [tl, T_specParseR, Go.Proofs.Tryz.Cfg.tb_specWords, Go.Proofs.Tryz.Cfg.tb_specPrintR, Go.Proofs.Tryz.Dig.tb_specNumberR, go_sem, seval, cfz, one1, cfgNs, cfgL]
    (try simp (config := {maxSteps := 2000000}) only [gimp, impB, isT, go_sem, seval])
    have wl := getD_split_len 32 s (k + 2)
    exact ⟨fun hlt => ⟨by omega, by omega, by omega, by omega, k + 1, ⟨⟨rfl, by omega⟩, by rw [ts, List.map_append]; rfl⟩, by omega, by omega⟩, fun h => absurd h (by omega)⟩
  · have e : k = 16 := by omega
    subst e
    rw [List.take_of_length_le (by rw [cfgNs_len]; exact Nat.le_refl _)]
    simp (config := {maxSteps := 2000000}) only [T_specParseR, Go.Proofs.Tryz.Cfg.tb_specWords, Go.Proofs.Tryz.Cfg.tb_specPrintR, Go.Proofs.Tryz.Dig.tb_specNumberR, go_sem, seval, cfz, one1, cfgNs, cfgL]
    (try simp (config := {maxSteps := 2000000}) only [gimp, impB, isT, go_sem, seval])
    have ha1 : (splitB 32 s).getD 1 [] = [45] → cfgA1 s = [] := fun h => by simp only [cfgA1, cfgW1, h, if_true]
    have ha2 : ¬ (splitB 32 s).getD 1 [] = [45] → cfgA1 s = (splitB 32 s).getD 1 [] := fun h => by rw [cfgA1, cfgW1, if_neg h]
    have l0 := getD_split_len 32 s 0
    have l1 := getD_split_len 32 s 1
    have fin : ∀ au, cfgA1 s = au → (s = [] ∨ ¬ cfgText (cfgNm s) au (cfgNs cfgMax s) = s → (.agg [.str [], .str [], .int .i64 0, .int .i64 0, .int .i64 0, .int .i64 0, .int .i64 0, .int .i64 0, .int .i64 0, .int .i64 0, .int .i64 0, .int .i64 0, .int .i64 0, .int .i64 0, .int .i64 0, .int .i64 0, .int .i64 0, .int .i64 0] : AV) = .agg [.str (cfgRN s), .str (cfgRA s), .int .i64 (cfgRI s 0), .int .i64 (cfgRI s 1), .int .i64 (cfgRI s 2), .int .i64 (cfgRI s 3), .int .i64 (cfgRI s 4), .int .i64 (cfgRI s 5), .int .i64 (cfgRI s 6), .int .i64 (cfgRI s 7), .int .i64 (cfgRI s 8), .int .i64 (cfgRI s 9), .int .i64 (cfgRI s 10), .int .i64 (cfgRI s 11), .int .i64 (cfgRI s 12), .int .i64 (cfgRI s 13), .int .i64 (cfgRI s 14), .int .i64 (cfgRI s 15)] ∧ (3 : Int) = cfgRE s) ∧ (¬ s = [] → cfgText (cfgNm s) au (cfgNs cfgMax s) = s → (.agg [.str (cfgNm s), .str au, .int .i64 (cfgN cfgMax s 0), .int .i64 (cfgN cfgMax s 1), .int .i64 (cfgN cfgMax s 2), .int .i64 (cfgN cfgMax s 3), .int .i64 (cfgN cfgMax s 4), .int .i64 (cfgN cfgMax s 5), .int .i64 (cfgN cfgMax s 6), .int .i64 (cfgN cfgMax s 7), .int .i64 (cfgN cfgMax s 8), .int .i64 (cfgN cfgMax s 9), .int .i64 (cfgN cfgMax s 10), .int .i64 (cfgN cfgMax s 11), .int .i64 (cfgN cfgMax s 12), .int .i64 (cfgN cfgMax s 13), .int .i64 (cfgN cfgMax s 14), .int .i64 (cfgN cfgMax s 15)] : AV) = .agg [.str (cfgRN s), .str (cfgRA s), .int .i64 (cfgRI s 0), .int .i64 (cfgRI s 1), .int .i64 (cfgRI s 2), .int .i64 (cfgRI s 3), .int .i64 (cfgRI s 4), .int .i64 (cfgRI s 5), .int .i64 (cfgRI s 6), .int .i64 (cfgRI s 7), .int .i64 (cfgRI s 8), .int .i64 (cfgRI s 9), .int .i64 (cfgRI s 10), .int .i64 (cfgRI s 11), .int .i64 (cfgRI s 12), .int .i64 (cfgRI s 13), .int .i64 (cfgRI s 14), .int .i64 (cfgRI s 15)] ∧ (0 : Int) = cfgRE s) := by
      rintro au rfl
      refine ⟨fun hb => bad ?_, fun h1 h2 => ?_⟩
      · rw [← cfgHas_eq]
        simp only [cfgHas, Bool.and_eq_false_iff, Bool.not_eq_false', decide_eq_false_iff_not, decide_eq_true_eq]
        exact .inr hb
      · have hh : cfgHas cfgTo s = true := by
          rw [← cfgHas_eq]
          simp only [cfgHas, Bool.and_eq_true, Bool.not_eq_true', decide_eq_false_iff_not, decide_eq_true_eq]
          exact ⟨by omega, h1, h2⟩
        simp only [cfgRN, cfgRA, cfgRI, cfgRE, hh, if_true, cfgN_eq hh 0 (by decide), cfgN_eq hh 1 (by decide), cfgN_eq hh 2 (by decide), cfgN_eq hh 3 (by decide), cfgN_eq hh 4 (by decide), cfgN_eq hh 5 (by decide), cfgN_eq hh 6 (by decide), cfgN_eq hh 7 (by decide), cfgN_eq hh 8 (by decide), cfgN_eq hh 9 (by decide), cfgN_eq hh 10 (by decide), cfgN_eq hh 11 (by decide), cfgN_eq hh 12 (by decide), cfgN_eq hh 13 (by decide), cfgN_eq hh 14 (by decide), cfgN_eq hh 15 (by decide)]
        exact ⟨trivial, trivial⟩
    exact ⟨by omega, by omega, by omega, fun h1 => ⟨fun _ => by omega, (fin _ (ha1 h1)).1, (fin _ (ha1 h1)).2⟩, fun h1 => ⟨⟨fun _ => by omega, fun _ => by omega⟩, (fin _ (ha2 h1)).1, (fin _ (ha2 h1)).2⟩⟩
def tb_specParseR : List Blk → List AV → Option (List Blk × AV × Prop)
  | [], [.str s] => some ([], .tuple [.agg [.str (cfgRN s), .str (cfgRA s), .int .i64 (cfgRI s 0), .int .i64 (cfgRI s 1), .int .i64 (cfgRI s 2), .int .i64 (cfgRI s 3), .int .i64 (cfgRI s 4), .int .i64 (cfgRI s 5), .int .i64 (cfgRI s 6), .int .i64 (cfgRI s 7), .int .i64 (cfgRI s 8), .int .i64 (cfgRI s 9), .int .i64 (cfgRI s 10), .int .i64 (cfgRI s 11), .int .i64 (cfgRI s 12), .int .i64 (cfgRI s 13), .int .i64 (cfgRI s 14), .int .i64 (cfgRI s 15)], .int .i64 (cfgRE s)], (s.length ≤ 1000000))
  | _, _ => none
theorem tb_specParseR_ok : ∀ E args E' res p, tb_specParseR E args = some (E', res, p) → p → SpecE Tryz.prog 22 E args E' res := by
  intro E args E' res p h hp
  unfold tb_specParseR at h
  split at h
  · simp only [Option.some.injEq, Prod.mk.injEq] at h
    obtain ⟨rfl, rfl, rfl⟩ := h
    exact (specParseR _ hp)
  · cases h
end Go.Proofs.Tryz.Cfg
end
section
set_option linter.unusedVariables false
set_option linter.unusedSimpArgs false
namespace Go.Mdl
open Go Go.Abs
theorem splitB_end (c : UInt8) : ∀ t : List UInt8, splitB c (t ++ [c]) = splitB c t ++ [[]]
  | [] => by simp [splitB]
  | x :: t => by
    have ih := splitB_end c t
    have hn := splitB_ne c t
    simp only [List.cons_append, splitB, ih]
    by_cases h : x = c
    · simp [h]
    · simp only [if_neg h]
      cases hs : splitB c t with
      | nil => exact absurd hs hn
      | cons w ws => rfl
theorem suffix_of {s : List UInt8} (h : Lib.hasSuffix s [10] = true) : s = Lib.trimSuffix s [10] ++ [10] := by
  rw [Lib.trimSuffix, if_pos h]
  rw [Lib.hasSuffix, List.isSuffixOf_iff_suffix] at h
  obtain ⟨t, rfl⟩ := h
  rw [List.take_left' (by simp)]
theorem pr_split {s : List UInt8} (h : Lib.hasSuffix s [10] = true) : splitB 10 s = prL s ++ [[]] := by
  conv => lhs; rw [suffix_of h]
  exact splitB_end 10 _
theorem pr_suffix (s : List UInt8) : Lib.hasSuffix s [10] = true ↔ (s ≠ [] ∧ s.getD (s.length - 1) 0 = 10) := by
  rw [Lib.hasSuffix, List.isSuffixOf_iff_suffix]
  constructor
  · rintro ⟨t, rfl⟩
    refine ⟨by simp, ?_⟩
    rw [List.getD_eq_getElem?_getD, List.length_append, List.length_singleton, Nat.add_sub_cancel, List.getElem?_append_right (Nat.le_refl _), Nat.sub_self]
    rfl
  · rintro ⟨h1, h2⟩
    refine ⟨s.dropLast, ?_⟩
    have hp : 0 < s.length := List.length_pos_iff.2 h1
    have e := List.dropLast_concat_getLast h1
    rw [List.getLast_eq_getElem] at e
    rw [List.getD_eq_getElem?_getD, List.getElem?_eq_getElem (by omega)] at h2
    have h2' : s[s.length - 1] = 10 := h2
    rw [h2'] at e
    exact e
theorem pr_len (s : List UInt8) : ((splitB 10 s).length : Int) - 1 = (cntB 10 s : Nat) := by have := splitB_len 10 s; omega
theorem pr_cnt {s : List UInt8} (h : Lib.hasSuffix s [10] = true) : cntB 10 s = (prL s).length := by
  have := splitB_len 10 s
  rw [pr_split h, List.length_append, List.length_singleton] at this
  omega
theorem pr_at {s : List UInt8} (h : Lib.hasSuffix s [10] = true) {i : Nat} (hi : i < (prL s).length) : (splitB 10 s).getD i [] = prW s i := by
  rw [pr_split h, prW, List.getD_eq_getElem?_getD, List.getD_eq_getElem?_getD, List.getElem?_append_left hi]
theorem pr_rowat (s : List UInt8) (k : Nat) : (prRows s).getD k [] = prW s (k + 2) := by
  rw [prRows, prW, List.getD_eq_getElem?_getD, List.getD_eq_getElem?_getD, List.getElem?_drop, Nat.add_comm]
end Go.Mdl
namespace Go.Proofs.Tryz.PrsR
open Go Go.Abs Go.Proofs Go.Mdl
def T_specParseR : Tbl := fun g E args => (addT (addT (addT (addT (addT nilT 21 Go.Proofs.Tryz.Spt.tb_specSplit) 22 Go.Proofs.Tryz.Cfg.tb_specParseR) 23 Go.Proofs.Tryz.Dig.tb_specNumberR) 24 Go.Proofs.Tryz.Dig.tb_specTextR) 25 Go.Proofs.Tryz.EvR.tb_specEventR) g E args
theorem T_specParseR_ok : TblOK Tryz.prog T_specParseR := (addT_ok (addT_ok (addT_ok (addT_ok (addT_ok nilT_ok (by decide +kernel) Go.Proofs.Tryz.Spt.tb_specSplit_ok) (by decide +kernel) Go.Proofs.Tryz.Cfg.tb_specParseR_ok) (by decide +kernel) Go.Proofs.Tryz.Dig.tb_specNumberR_ok) (by decide +kernel) Go.Proofs.Tryz.Dig.tb_specTextR_ok) (by decide +kernel) Go.Proofs.Tryz.EvR.tb_specEventR_ok)
set_option maxRecDepth 100000 in
set_option maxHeartbeats 4000000 in
theorem specParseR (s : List UInt8) (hs : s.length ≤ 4000) : SpecE Tryz.prog 6 [] [.str s] [] (.tuple [.agg [.str (prNm s), .str (prAu s), .int .i64 (prI s 0), .int .i64 (prI s 1), .int .i64 (prI s 2), .int .i64 (prI s 3), .int .i64 (prI s 4), .int .i64 (prI s 5), .int .i64 (prI s 6), .int .i64 (prI s 7), .int .i64 (prI s 8), .int .i64 (prI s 9), .int .i64 (prI s 10), .int .i64 (prI s 11), .int .i64 (prI s 12), .int .i64 (prI s 13), .int .i64 (prI s 14), .int .i64 (prI s 15), .int .i64 (prNow s), .list 5 ((prEvs s).map enc_ev)], .int .i64 (prN s), .int .i64 (prE s)]) := by
  refine specF0 (C := T_specParseR) (wr := false) (D := fun i => if i = 11 then [56] else []) (U := fun _ => none) (res := [.agg [.str (prNm s), .str (prAu s), .int .i64 (prI s 0), .int .i64 (prI s 1), .int .i64 (prI s 2), .int .i64 (prI s 3), .int .i64 (prI s 4), .int .i64 (prI s 5), .int .i64 (prI s 6), .int .i64 (prI s 7), .int .i64 (prI s 8), .int .i64 (prI s 9), .int .i64 (prI s 10), .int .i64 (prI s 11), .int .i64 (prI s 12), .int .i64 (prI s 13), .int .i64 (prI s 14), .int .i64 (prI s 15), .int .i64 (prNow s), .list 5 ((prEvs s).map enc_ev)], .int .i64 (prN s), .int .i64 (prE s)]) Tryz.Ty.mixed T_specParseR_ok Tryz.func6 (nA := 1) (by decide +kernel) rfl (fun _ => rfl) ?_
  simp only [Tryz.f6, bodyOf, rlOf]
  rw [W_V]
  simp (config := {maxSteps := 2000000}) only [T_specParseR, Go.Proofs.Tryz.Spt.tb_specSplit, Go.Proofs.Tryz.Cfg.tb_specParseR, Go.Proofs.Tryz.Dig.tb_specNumberR, Go.Proofs.Tryz.Dig.tb_specTextR, Go.Proofs.Tryz.EvR.tb_specEventR, go_sem, seval, scz, evz, scA]
  (try simp (config := {maxSteps := 2000000}) only [gimp, impB, isT, go_sem, seval])
  have hl := prL_len s
  have hmx : (4000 : Nat) ≤ maxLen := by decide
  have w0 := prW_len s 0
  have w1 := prW_len s 1
  have hln := pr_len s
  have hcl := cntB_le 10 s
  have nr : numErr 10 1099511627776 (prW s 1) = 0 → 0 ≤ numVal 10 1099511627776 (prW s 1) ∧ numVal 10 1099511627776 (prW s 1) ≤ 1099511627776 := fun h => by have := numVal_rngS 10 1099511627776 (prW s 1) (.inl rfl); omega
  have pos : ¬ s = [] → 1 ≤ s.length := fun h => List.length_pos_iff.2 h
  by_cases hs' : prShort s = true
  · refine ⟨by omega, by omega, ⟨fun h => by omega, fun h => by omega⟩, ⟨fun h => by have := pos h; omega, fun h => by have := pos h; omega⟩, fun h => ?_, fun g1 g2 g3 => ?_⟩
    · obtain ⟨a, b⟩ := pr_short hs'
      obtain ⟨e1, e2, e3, e4, e5, e6⟩ := pr_no a
      rw [hln]
      simp [e1, e2, e3, e4, e5, e6, b, hs']
    · exfalso
      have hsf := (pr_suffix s).2 ⟨g1, g2⟩
      have hc := pr_cnt hsf
      rw [prShort_iff, hsf] at hs'
      rcases hs' with h | h
      · cases h
      · omega
  rw [Bool.not_eq_true] at hs'
  have hns : ¬ (Lib.hasSuffix s [10] = false ∨ (prL s).length < 2) := fun h => by rw [(prShort_iff s).2 h] at hs'; cases hs'
  have hsf : Lib.hasSuffix s [10] = true := by
    rw [← Bool.not_eq_false]; exact fun h => hns (.inl h)
  have h2 : 2 ≤ (prL s).length := by
    rcases Nat.lt_or_ge (prL s).length 2 with h | h
    · exact absurd (.inr h) hns
    · exact h
  obtain ⟨q1, q2⟩ := (pr_suffix s).1 hsf
  have nlen : (splitB 10 s).length = (prL s).length + 1 := by rw [pr_split hsf]; simp
  rw [pr_at hsf (i := 0) (by omega), pr_at hsf (i := 1) (by omega), nlen]
  refine ⟨by omega, by omega, ⟨fun h => by omega, fun h => by omega⟩, ⟨fun h => by have := pos h; omega, fun h => by have := pos h; omega⟩, fun h => ?_, fun _ _ g3 => ⟨fun h => by omega, fun _ => ⟨by omega, by omega, fun h => ?_, fun h3 => ⟨by omega, by omega, ⟨fun h => by have := nr h; omega, fun h => by have := nr h; omega⟩, fun _ => by omega, fun h => ?_, fun h4 h5 => ?_⟩⟩⟩⟩
  · exfalso
    rcases h with (h | h) | h
    · exact q1 h
    · exact h q2
    · omega
  · have hc : cfgHas cfgTo (prW s 0) = false := by rw [← Bool.not_eq_true, ← cfgRE_iff]; exact h
    obtain ⟨a, b⟩ := pr_cfg hs' hc
    obtain ⟨e1, e2, e3, e4, e5, e6⟩ := pr_no a
    simp [e1, e2, e3, e4, e5, e6, b, hs']
  all_goals have hc : cfgHas cfgTo (prW s 0) = true := (cfgRE_iff _).1 h3
  · have hb : prNowB s = false := by
      rw [← Bool.not_eq_true, prNowB_iff]
      rintro ⟨x, y⟩
      rcases h with h | h
      · exact h x
      · exact h y
    obtain ⟨a, b⟩ := pr_now hs' hc hb
    obtain ⟨e1, e2, e3, e4, e5, e6⟩ := pr_no a
    simp [e1, e2, e3, e4, e5, e6, b, hs']
  have hb : prNowB s = true := (prNowB_iff s).2 ⟨h4, h5⟩
  have hr : (prRows s).length = (prL s).length - 2 := List.length_drop ..
  have row := fun k => @pr_row s hs' hc hb k
  have yes := pr_yes hs' hc hb
  rw [show numVal 10 1099511627776 (prW s 1) = prNowN s from rfl] at *
  have rl := row_len s
  have bad : ∀ k : Nat, k < (prRows s).length → ((prRows s).take k).all evB = true → evB ((prRows s).getD k []) = false → ([] = prNm s ∧ [] = prAu s ∧ 0 = prI s 0 ∧ 0 = prI s 1 ∧ 0 = prI s 2 ∧ 0 = prI s 3 ∧ 0 = prI s 4 ∧ 0 = prI s 5 ∧ 0 = prI s 6 ∧ 0 = prI s 7 ∧ 0 = prI s 8 ∧ 0 = prI s 9 ∧ 0 = prI s 10 ∧ 0 = prI s 11 ∧ 0 = prI s 12 ∧ 0 = prI s 13 ∧ 0 = prI s 14 ∧ 0 = prI s 15 ∧ 0 = prNow s ∧ List.map enc_ev (prEvs s) = []) ∧ ((k : Int) + 3 = prN s) ∧ 3 = prE s := fun k h1 h2 h3 => by
    obtain ⟨a, b⟩ := row k h1 h2 h3
    obtain ⟨e1, e2, e3, e4, e5, e6⟩ := pr_no a
    simp [e1, e2, e3, e4, e5, e6, b, hs']
  have at' : ∀ k : Nat, k < (prRows s).length → (splitB 10 s).getD (k + 2) [] = (prRows s).getD k [] := fun k hk => by
    rw [pr_rowat, pr_at hsf (by omega)]
  refine VL_N 1 ?_
  rw [VN_succ]
  simp (config := {maxSteps := 2000000}) only [T_specParseR, Go.Proofs.Tryz.Spt.tb_specSplit, Go.Proofs.Tryz.Cfg.tb_specParseR, Go.Proofs.Tryz.Dig.tb_specNumberR, Go.Proofs.Tryz.Dig.tb_specTextR, Go.Proofs.Tryz.EvR.tb_specEventR, go_sem, seval, scz, evz, scA]
  (try simp (config := {maxSteps := 2000000}) only [gimp, impB, isT, go_sem, seval])
  refine ⟨fun hlt => ?_, fun hge => ?_⟩
  · have a0 := at' 0 (by omega)
    simp only [Nat.zero_add] at a0
    rw [a0]
    refine ⟨by omega, by have := rl 0; omega, fun hf => bad 0 (by omega) (by simp) hf, fun hf => ?_⟩
    obtain ⟨r1, r2, r3⟩ := rEv_yes hf
    rw [r3]
    refine VN_inv (X := Nat) (fun k => ⟨[(2, .ptr 48 0 0 1), (5, enc_strs (splitB 10 s)), (6, .int .i64 (prL s).length), (11, .ptr 192 0 0 1), (12, .int .i64 ((k : Int) + 2))], [(48, .cells 20 false scz [scz]), (192, .cells 20 false scz [scA (prW s 0) (prNowN s) (.ref 1488 0 k k)]), (1488, .cells 5 false evz (((prRows s).take k).map fun r => enc_ev (evS r)))]⟩) (fun k => 1 ≤ k ∧ k ≤ (prRows s).length ∧ ((prRows s).take k).all evB = true) (fun k => (prRows s).length - k) 1 ?_ ?_ ?_
    · simp only [T_specParseR, Go.Proofs.Tryz.Spt.tb_specSplit, Go.Proofs.Tryz.Cfg.tb_specParseR, Go.Proofs.Tryz.Dig.tb_specNumberR, Go.Proofs.Tryz.Dig.tb_specTextR, Go.Proofs.Tryz.EvR.tb_specEventR, go_sem, seval, scz, evz, scA]
      have := rows_snoc (prRows s) (k := 0) (by omega)
      exact ⟨by omega, this.symm⟩
    · exact ⟨Nat.le_refl _, by omega, rows_all _ (by omega) (by simp) hf⟩
    rintro k ⟨k1, k2, k3⟩
    simp (config := {maxSteps := 2000000}) only [T_specParseR, Go.Proofs.Tryz.Spt.tb_specSplit, Go.Proofs.Tryz.Cfg.tb_specParseR, Go.Proofs.Tryz.Dig.tb_specNumberR, Go.Proofs.Tryz.Dig.tb_specTextR, Go.Proofs.Tryz.EvR.tb_specEventR, go_sem, seval, scz, evz, scA]
    (try simp (config := {maxSteps := 2000000}) only [gimp, impB, isT, go_sem, seval])
    have ln : (List.take k (prRows s)).length = k := by rw [List.length_take]; omega
    refine ⟨fun hlt => ?_, fun hge => ?_⟩
    · have ak := at' k (by omega)
      rw [ak]
      refine ⟨by omega, by have := rl k; omega, fun hf => ⟨by omega, ?_⟩, fun hf => ?_⟩
      · have e := bad k (by omega) k3 hf
        rw [show (k : Int) + 2 + 1 = k + 3 by omega]
        exact e
      · obtain ⟨r1, r2, r3⟩ := rEv_yes hf
        rw [r3]
        refine ⟨by omega, by omega, k + 1, ⟨by omega, rfl, (rows_snoc (prRows s) (by omega)).symm⟩, ⟨by omega, by omega, rows_all _ (by omega) k3 hf⟩, by omega⟩
    have ek : k = (prRows s).length := by omega
    rw [ek, List.take_length] at k3
    obtain ⟨y0, y1, y2, y3, y4, y5, y6, y7⟩ := yes k3
    rw [ek, List.take_length, List.take_length]
    simp only [y1, y2, y3, y4, y5, y6, y7, List.map_map, and_true, true_and]
    rfl
  · have e0 : (prRows s).length = 0 := by omega
    have en := List.eq_nil_of_length_eq_zero e0
    obtain ⟨y0, y1, y2, y3, y4, y5, y6, y7⟩ := yes (by rw [en]; rfl)
    simp only [y1, y2, y3, y4, y5, y6, y7, en, List.map_nil, and_self, and_true, true_and]
    omega
def tb_specParseR : List Blk → List AV → Option (List Blk × AV × Prop)
  | [], [.str s] => some ([], .tuple [.agg [.str (prNm s), .str (prAu s), .int .i64 (prI s 0), .int .i64 (prI s 1), .int .i64 (prI s 2), .int .i64 (prI s 3), .int .i64 (prI s 4), .int .i64 (prI s 5), .int .i64 (prI s 6), .int .i64 (prI s 7), .int .i64 (prI s 8), .int .i64 (prI s 9), .int .i64 (prI s 10), .int .i64 (prI s 11), .int .i64 (prI s 12), .int .i64 (prI s 13), .int .i64 (prI s 14), .int .i64 (prI s 15), .int .i64 (prNow s), .list 5 ((prEvs s).map enc_ev)], .int .i64 (prN s), .int .i64 (prE s)], (s.length ≤ 4000))
  | _, _ => none
theorem tb_specParseR_ok : ∀ E args E' res p, tb_specParseR E args = some (E', res, p) → p → SpecE Tryz.prog 6 E args E' res := by
  intro E args E' res p h hp
  unfold tb_specParseR at h
  split at h
  · simp only [Option.some.injEq, Prod.mk.injEq] at h
    obtain ⟨rfl, rfl, rfl⟩ := h
    exact (specParseR _ hp)
  · cases h
end Go.Proofs.Tryz.PrsR
end
section
set_option linter.unusedVariables false
set_option linter.unusedSimpArgs false
namespace Go.Proofs.Tryz.Scr
open Go Go.Abs Go.Proofs Go.Mdl
def T_specPlain : Tbl := fun g E args => nilT g E args
theorem T_specPlain_ok : TblOK Tryz.prog T_specPlain := nilT_ok
set_option maxRecDepth 100000 in
set_option maxHeartbeats 4000000 in
theorem specPlain (r : Int) : SpecE Tryz.prog 81 [] [.int .i32 r] [] (.bool (plnI r)) := by
  refine specF0 (C := T_specPlain) (wr := false) (D := fun _ => []) (U := fun _ => none) (res := [.bool (plnI r)]) Tryz.Ty.mixed T_specPlain_ok Tryz.func81 (nA := 1) (by decide +kernel) rfl (fun _ => rfl) ?_
  simp only [Tryz.f81, bodyOf, rlOf]
  rw [W_V]
  simp (config := {maxSteps := 2000000}) only [T_specPlain, go_sem, seval]
  (try simp (config := {maxSteps := 2000000}) only [gimp, impB, isT, go_sem, seval])
  rfl
def tb_specPlain : List Blk → List AV → Option (List Blk × AV × Prop)
  | [], [.int .i32 r] => some ([], .bool (plnI r), True)
  | _, _ => none
theorem tb_specPlain_ok : ∀ E args E' res p, tb_specPlain E args = some (E', res, p) → p → SpecE Tryz.prog 81 E args E' res := by
  intro E args E' res p h hp
  unfold tb_specPlain at h
  split at h
  · simp only [Option.some.injEq, Prod.mk.injEq] at h
    obtain ⟨rfl, rfl, rfl⟩ := h
    exact (specPlain _)
  · cases h
def T_specPut : Tbl := fun g E args => (addT (addT nilT 80 Go.Proofs.Tryz.Dig.tb_specHexText) 36 Go.Proofs.Tryz.Bld.tb_ws) g E args
theorem T_specPut_ok : TblOK Tryz.prog T_specPut := (addT_ok (addT_ok nilT_ok (by decide +kernel) Go.Proofs.Tryz.Dig.tb_specHexText_ok) (by decide +kernel) Go.Proofs.Tryz.Bld.tb_ws_ok)
set_option maxRecDepth 100000 in
set_option maxHeartbeats 4000000 in
theorem specPut (s t : List UInt8) (hs : s.length + 3 * t.length ≤ 90000000) : SpecE Tryz.prog 79 [.cells 2 false (.iface 71 (.agg [.nilp, .nils])) [.agg [.ptr 0 0 0 1, .ref 1 0 (s).length (s).length]], .cells 1 false (.iface 5 (.int .u8 0)) ((s).map byteAV)] [.str t, .ptr 0 0 0 1] [.cells 2 false (.iface 71 (.agg [.nilp, .nils])) [.agg [.ptr 0 0 0 1, .ref 1 0 (s ++ t.flatMap escQ).length (s ++ t.flatMap escQ).length]], .cells 1 false (.iface 5 (.int .u8 0)) ((s ++ t.flatMap escQ).map byteAV)] (.tuple []) := by
  refine specFE (C := T_specPut) (wr := false) (D := fun _ => []) (U := fun _ => none) (E := [.cells 2 false (.iface 71 (.agg [.nilp, .nils])) [.agg [.ptr 0 0 0 1, .ref 1 0 (s).length (s).length]], .cells 1 false (.iface 5 (.int .u8 0)) ((s).map byteAV)]) (E' := [.cells 2 false (.iface 71 (.agg [.nilp, .nils])) [.agg [.ptr 0 0 0 1, .ref 1 0 (s ++ t.flatMap escQ).length (s ++ t.flatMap escQ).length]], .cells 1 false (.iface 5 (.int .u8 0)) ((s ++ t.flatMap escQ).map byteAV)]) (res := []) [] Tryz.Ty.mixed T_specPut_ok Tryz.func79 (args := [.str t, .ptr 0 0 0 1]) (nE := 2) (nA := 2) (by decide +kernel) rfl rfl ?_
  simp only [Tryz.f79, bodyOf, rlOf]
  rw [W_V]
  simp (config := {maxSteps := 2000000}) only [T_specPut, Go.Proofs.Tryz.Dig.tb_specHexText, Go.Proofs.Tryz.Bld.tb_ws, go_sem, seval]
  (try simp (config := {maxSteps := 2000000}) only [gimp, impB, isT, go_sem, seval])
  refine VL_inv (X := Nat) (fun x => ⟨[(0, .str t), (1, .ptr 0 0 0 1), (6, .int .i64 t.length), (7, .int .i64 x)], [(0, .cells 2 false (.iface 71 (.agg [.nilp, .nils])) [.agg [.ptr 0 0 0 1, .ref 1 0 (s ++ (t.take x).flatMap escQ).length (s ++ (t.take x).flatMap escQ).length]]), (1, .cells 1 false (.iface 5 (.int .u8 0)) ((s ++ (t.take x).flatMap escQ).map byteAV))]⟩)
    (fun x => x ≤ t.length) (fun x => t.length - x) 0 ?_ ?_ ?_
  · simp only [T_specPut, Go.Proofs.Tryz.Dig.tb_specHexText, Go.Proofs.Tryz.Bld.tb_ws, go_sem, seval]
    try rfl
  · exact Nat.zero_le _
  rintro x hx
  simp (config := {maxSteps := 2000000}) only [T_specPut, Go.Proofs.Tryz.Dig.tb_specHexText, Go.Proofs.Tryz.Bld.tb_ws, go_sem, seval]
  (try simp (config := {maxSteps := 2000000}) only [gimp, impB, isT, go_sem, seval])
  obtain ⟨g1, g2⟩ := hexS_two (t.getD x 0)
  have hb : (t.getD x 0).toNat < 256 := (t.getD x 0).toNat_lt
  have hl := esc_flat_len (t.take x)
  have htl : (t.take x).length = x := by rw [List.length_take]; omega
  have hst : x < t.length → (t.take x).flatMap escQ ++ 92 :: hex2 (t.getD x 0) = (t.take (x + 1)).flatMap escQ := fun h => by
    rw [take_succ_getD 0 h, List.flatMap_append]; simp [escQ]
  rw [g1, g2]
  have h2 : (hex2 (t.getD x 0)).length = 2 := rfl
  refine ⟨fun hlt => ?_, fun hge => ?_⟩
  · rw [hst (by omega)]
    refine ⟨by omega, by omega, by omega, by omega, by omega, by omega, ⟨by rw [List.length_append]; omega, by omega⟩, by omega, x + 1, ⟨by omega, ⟨rfl, rfl⟩, rfl, rfl⟩, by omega, by omega⟩
  · rw [List.take_of_length_le (by omega)]
    exact ⟨⟨rfl, rfl⟩, rfl, rfl⟩
def tb_put : List Blk → List AV → Option (List Blk × AV × Prop)
  | [.cells 2 false d [.agg [.ptr 0 0 0 1, .ref 1 0 n m]], .cells 1 false d2 c], [.str t, .ptr 0 0 0 1] => some ([.cells 2 false d [.agg [.ptr 0 0 0 1, .ref 1 0 (c.map toByte ++ t.flatMap escQ).length (c.map toByte ++ t.flatMap escQ).length]], .cells 1 false d2 ((c.map toByte ++ t.flatMap escQ).map byteAV)], .tuple [],
      d = .iface 71 (.agg [.nilp, .nils]) ∧ d2 = .iface 5 (.int .u8 0) ∧ (c.map toByte).map byteAV = c ∧ n = c.length ∧ m = c.length ∧ c.length + 3 * t.length ≤ 90000000)
  | _, _ => none
theorem tb_put_ok : ∀ E args E' res q, tb_put E args = some (E', res, q) → q → SpecE Tryz.prog 79 E args E' res := by
  intro E args E' res q h hq
  unfold tb_put at h
  split at h
  · rename_i d n m d2 c t
    simp only [Option.some.injEq, Prod.mk.injEq] at h
    obtain ⟨rfl, rfl, rfl⟩ := h
    obtain ⟨rfl, rfl, h1, rfl, rfl, h2⟩ := hq
    have := specPut (c.map toByte) t (by rw [List.length_map]; exact h2)
    rw [h1] at this
    simp only [List.length_map] at this
    exact this
  · cases h
def T_specQuote : Tbl := fun g E args => (addT (addT (addT (addT (addT nilT 81 Go.Proofs.Tryz.Scr.tb_specPlain) 79 Go.Proofs.Tryz.Scr.tb_put) 36 Go.Proofs.Tryz.Bld.tb_ws) 82 Go.Proofs.Tryz.Bld.tb_wr) 38 Go.Proofs.Tryz.Bld.tb_bstr) g E args
theorem T_specQuote_ok : TblOK Tryz.prog T_specQuote := (addT_ok (addT_ok (addT_ok (addT_ok (addT_ok nilT_ok (by decide +kernel) Go.Proofs.Tryz.Scr.tb_specPlain_ok) (by decide +kernel) Go.Proofs.Tryz.Scr.tb_put_ok) (by decide +kernel) Go.Proofs.Tryz.Bld.tb_ws_ok) (by decide +kernel) Go.Proofs.Tryz.Bld.tb_wr_ok) (by decide +kernel) Go.Proofs.Tryz.Bld.tb_bstr_ok)
set_option maxRecDepth 100000 in
set_option maxHeartbeats 4000000 in
theorem specQuote (s : List UInt8) (hs : s.length ≤ 10000000) : SpecE Tryz.prog 58 [] [.str s] [] (.str (qtdS s)) := by
  refine specF0 (C := T_specQuote) (wr := false) (D := fun _ => []) (U := fun _ => none) (res := [.str (qtdS s)]) Tryz.Ty.mixed T_specQuote_ok Tryz.func58 (nA := 1) (by decide +kernel) rfl (fun _ => rfl) ?_
  simp only [Tryz.f58, bodyOf, rlOf]
  rw [W_V]
  simp (config := {maxSteps := 2000000}) only [T_specQuote, Go.Proofs.Tryz.Scr.tb_specPlain, Go.Proofs.Tryz.Scr.tb_put, Go.Proofs.Tryz.Bld.tb_ws, Go.Proofs.Tryz.Bld.tb_wr, Go.Proofs.Tryz.Bld.tb_bstr, go_sem, seval]
  (try simp (config := {maxSteps := 2000000}) only [gimp, impB, isT, go_sem, seval])
  refine VL_inv (X := Nat × Nat) (fun y => ⟨[(0, .str s), (3, .ptr 64 0 0 1), (4, .clo 79 0 [.ptr 64 0 0 1]), (5, .int .i64 y.1), (11, .it 192)], [(64, .cells 2 false (.iface 71 (.agg [.nilp, .nils])) [.agg [.ptr 64 0 0 1, .ref 144 0 (34 :: (s.take y.1).flatMap quoB).length (34 :: (s.take y.1).flatMap quoB).length]]), (144, .cells 1 false (.iface 5 (.int .u8 0)) ((34 :: (s.take y.1).flatMap quoB).map byteAV)), (192, .iter s y.2)]⟩)
    (fun y => y.1 ≤ y.2 ∧ y.2 ≤ s.length ∧ ∀ c ∈ (s.take y.2).drop y.1, plnB c = false) (fun y => s.length - y.2) (0, 0) ?_ ?_ ?_
  · simp only [T_specQuote, Go.Proofs.Tryz.Scr.tb_specPlain, Go.Proofs.Tryz.Scr.tb_put, Go.Proofs.Tryz.Bld.tb_ws, Go.Proofs.Tryz.Bld.tb_wr, Go.Proofs.Tryz.Bld.tb_bstr, go_sem, seval]
    try rfl
  · exact ⟨Nat.le_refl _, Nat.zero_le _, by simp⟩
  rintro ⟨fr, i⟩ ⟨i1, i2, i3⟩
  simp only at i1 i2 i3
  simp (config := {maxSteps := 2000000}) only [T_specQuote, Go.Proofs.Tryz.Scr.tb_specPlain, Go.Proofs.Tryz.Scr.tb_put, Go.Proofs.Tryz.Bld.tb_ws, Go.Proofs.Tryz.Bld.tb_wr, Go.Proofs.Tryz.Bld.tb_bstr, go_sem, seval]
  (try simp (config := {maxSteps := 2000000}) only [gimp, impB, isT, go_sem, seval])
  have q1 := quo_flat_len (s.take fr)
  have q2 : (s.take fr).length = fr := by rw [List.length_take]; omega
  have q3 := esc_flat_len ((s.take i).drop fr)
  have q4 : ((s.take i).drop fr).length = i - fr := by rw [List.length_drop, List.length_take]; omega
  have q5 := esc_flat_len (s.drop fr)
  have q6 : (s.drop fr).length = s.length - fr := List.length_drop ..
  have e1 : (s.take fr).flatMap quoB ++ ((s.take i).drop fr).flatMap escQ = (s.take i).flatMap quoB := by
    rw [← quo_high i3, ← List.flatMap_append]
    congr 1
    have := List.take_append_drop fr (s.take i)
    rw [List.take_take, Nat.min_eq_left i1] at this
    exact this
  refine ⟨fun hlt => ⟨hlt, hlt, fun hp => ?_, fun hp => ?_⟩, fun hge => ?_⟩
  · obtain ⟨p1, p2, p3, p4⟩ := plain_rune hlt hp
    have e2 : (s.take fr).flatMap quoB ++ (((s.take i).drop fr).flatMap escQ ++ [UInt8.ofNat (runeAt s i).1.toNat]) = (s.take (i + 1)).flatMap quoB := by
      rw [← List.append_assoc, e1, take_succ_getD 0 hlt, List.flatMap_append, p3]
      generalize s.getD i 0 = c at *
      simp [quoB, p2]
    rw [e2, p3, p4, if_pos hlt]
    refine ⟨by omega, by omega, ⟨by rw [List.length_append]; omega, by omega, by omega⟩, by omega, (i + 1, i + 1), ⟨by simp, rfl, rfl, rfl⟩, ⟨Nat.le_refl _, by simp only; omega, ?_⟩, by simp only; omega⟩
    simp only
    rw [List.drop_eq_nil_of_le (by rw [List.length_take]; omega)]
    simp
  · obtain ⟨p1, p2, p3⟩ := rune_pos hlt
    rw [if_pos hlt]
    refine ⟨(fr, i + (runeAt s i).2), ⟨rfl, rfl, rfl, rfl⟩, ⟨by simp only; omega, p3, fun c hc => ?_⟩, by simp only; omega⟩
    simp only at hc
    have e3 : (s.take (i + (runeAt s i).2)).drop fr = (s.take i).drop fr ++ (s.take (i + (runeAt s i).2)).drop i := by
      have h1 := List.take_append_drop i (s.take (i + (runeAt s i).2))
      rw [List.take_take, Nat.min_eq_left (by omega)] at h1
      conv => lhs; rw [← h1]
      rw [List.drop_append_of_le_length (by rw [List.length_take]; omega)]
    rw [e3] at hc
    rcases List.mem_append.1 hc with hc | hc
    · exact i3 c hc
    · exact plain_none hlt hp c hc
  · have e0 : i = s.length := by omega
    subst e0
    rw [List.take_length] at i3
    have e4 : (s.take fr).flatMap quoB ++ ((s.drop fr).flatMap escQ ++ [34]) = s.flatMap quoB ++ [34] := by
      rw [← List.append_assoc, ← quo_high i3, ← List.flatMap_append, List.take_append_drop]
    have q7 := quo_flat_len s
    rw [e4]
    refine ⟨by omega, by omega, by rw [List.length_append]; omega, ⟨by simp only [List.length_append, List.length_singleton]; omega, by omega⟩, rfl⟩
def tb_specQuote : List Blk → List AV → Option (List Blk × AV × Prop)
  | [], [.str s] => some ([], .str (qtdS s), (s.length ≤ 10000000))
  | _, _ => none
theorem tb_specQuote_ok : ∀ E args E' res p, tb_specQuote E args = some (E', res, p) → p → SpecE Tryz.prog 58 E args E' res := by
  intro E args E' res p h hp
  unfold tb_specQuote at h
  split at h
  · simp only [Option.some.injEq, Prod.mk.injEq] at h
    obtain ⟨rfl, rfl, rfl⟩ := h
    exact (specQuote _ hp)
  · cases h
def T_specUnquote : Tbl := fun g E args => (addT (addT (addT (addT nilT 56 Go.Proofs.Tryz.Lib.tb_specCutPrefix) 14 Go.Proofs.Tryz.Lib.tb_specCutSuffix) 57 Go.Proofs.Tryz.Dig.tb_specHex) 58 Go.Proofs.Tryz.Scr.tb_specQuote) g E args
theorem T_specUnquote_ok : TblOK Tryz.prog T_specUnquote := (addT_ok (addT_ok (addT_ok (addT_ok nilT_ok (by decide +kernel) Go.Proofs.Tryz.Lib.tb_specCutPrefix_ok) (by decide +kernel) Go.Proofs.Tryz.Lib.tb_specCutSuffix_ok) (by decide +kernel) Go.Proofs.Tryz.Dig.tb_specHex_ok) (by decide +kernel) Go.Proofs.Tryz.Scr.tb_specQuote_ok)
set_option maxRecDepth 100000 in
set_option maxHeartbeats 4000000 in
theorem specUnquote (s : List UInt8) (hs : s.length ≤ 3000000) : SpecE Tryz.prog 27 [] [.str s] [] (.tuple [.str (unqS s), .bool (unqB s)]) := by
  refine specF0 (C := T_specUnquote) (wr := false) (D := fun _ => []) (U := fun _ => none) (res := [.str (unqS s), .bool (unqB s)]) Tryz.Ty.mixed T_specUnquote_ok Tryz.func27 (nA := 1) (by decide +kernel) rfl (fun _ => rfl) ?_
  simp only [Tryz.f27, bodyOf, rlOf]
  rw [W_V]
  simp (config := {maxSteps := 2000000}) only [T_specUnquote, Go.Proofs.Tryz.Lib.tb_specCutPrefix, Go.Proofs.Tryz.Lib.tb_specCutSuffix, Go.Proofs.Tryz.Dig.tb_specHex, Go.Proofs.Tryz.Scr.tb_specQuote, go_sem, seval]
  (try simp (config := {maxSteps := 2000000}) only [gimp, impB, isT, go_sem, seval])
  have hmx : (3000000 : Nat) ≤ maxLen := by decide
  have h1 := trimPrefix_len s [34]
  refine ⟨by omega, ?_⟩
  have h2 := inG_len s
  have h3 : ∀ t, s = qtdS t → inG s = t.flatMap quoB ∧ okG s = true ∧ endG s = true := fun t ht => by subst ht; exact inG_quote t
  rw [show Lib.trimSuffix (Lib.trimPrefix s [34]) [34] = inG s from rfl, show Lib.hasPrefix s [34] = okG s from rfl, show Lib.hasSuffix (Lib.trimPrefix s [34]) [34] = endG s from rfl]
  generalize inG s = u at *
  generalize okG s = o at *
  generalize endG s = e at *
  refine VL_inv (X := Nat × List UInt8) (fun y => ⟨[(0, .str s), (4, .str u), (5, .bool o), (6, .bool e), (7, .ref 960 0 y.2.length y.2.length), (8, .int .i64 y.1)], [(960, .cells 1 false (.int .u8 0) (y.2.map byteAV))]⟩)
    (fun y => y.1 ≤ u.length + 2 ∧ y.2.length ≤ y.1 ∧ UnqI s u y.1 y.2) (fun y => u.length + 2 - y.1) (0, []) ?_ ?_ ?_
  · simp only [T_specUnquote, Go.Proofs.Tryz.Lib.tb_specCutPrefix, Go.Proofs.Tryz.Lib.tb_specCutSuffix, Go.Proofs.Tryz.Dig.tb_specHex, Go.Proofs.Tryz.Scr.tb_specQuote, go_sem, seval]
    try rfl
  · exact ⟨Nat.zero_le _, Nat.le_refl _, unqI_zero s u⟩
  rintro ⟨i, out⟩ ⟨i1, i2, i3⟩
  simp only at i1 i2 i3
  simp (config := {maxSteps := 2000000}) only [T_specUnquote, Go.Proofs.Tryz.Lib.tb_specCutPrefix, Go.Proofs.Tryz.Lib.tb_specCutSuffix, Go.Proofs.Tryz.Dig.tb_specHex, Go.Proofs.Tryz.Scr.tb_specQuote, go_sem, seval]
  (try simp (config := {maxSteps := 2000000}) only [gimp, impB, isT, go_sem, seval])
  have hq : ∀ t, s = qtdS t → u = t.flatMap quoB := fun t ht => (h3 t ht).1
  refine ⟨fun hlt => ?_, fun hge => ?_⟩
  · have hi : i < u.length := by omega
    rw [cut_pair hi]
    refine ⟨by omega, fun hc => ⟨by omega, by omega, by omega, fun hb => ?_, fun hg => ?_⟩, fun hc => ?_⟩
    · have := unqI_bad i3 hi hc hq hb
      exact ⟨(unq_no this).symm, this.symm⟩
    · obtain ⟨n1, n2⟩ := numVal_rngS 16 255 ((u.take (i + 3)).drop (i + 1)) (.inr rfl)
      have n3 : numVal 16 255 ((u.take (i + 3)).drop (i + 1)) ≤ 255 := by rcases n2 with n2 | n2 <;> omega
      have hv : ((UInt8.ofNat (numVal 16 255 ((u.take (i + 3)).drop (i + 1))).toNat).toNat : Int) = numVal 16 255 ((u.take (i + 3)).drop (i + 1)) := by
        rw [UInt8.toNat_ofNat']; omega
      have hs2 := unqI_good i3 hi hc hv
      generalize numVal 16 255 ((u.take (i + 3)).drop (i + 1)) = n at *
      refine ⟨⟨n1, n3⟩, by omega, by omega, by omega, (i + 3, out ++ [UInt8.ofNat n.toNat]), ⟨⟨by simp, by simp only; omega⟩, ?_⟩, ⟨by simp only; omega, by simp only [List.length_append, List.length_singleton]; omega, hs2⟩, by simp only; omega⟩
      simp only [List.map_append, List.map_cons, List.map_nil, byteAV, hv]
    · refine ⟨by omega, by omega, (i + 1, out ++ [u.getD i 0]), ⟨⟨by simp, by simp only; omega⟩, by rw [List.map_append]; rfl⟩, ⟨by simp only; omega, by simp only [List.length_append, List.length_singleton]; omega, unqI_plain i3 hi hc⟩, by simp only; omega⟩
  · rw [List.take_length]
    have he := unqI_end i3 (by omega) hq
    refine ⟨fun _ _ => by omega, fun _ _ hqq => ?_, fun hf => ?_⟩
    · obtain ⟨y1, y2⟩ := unq_yes hqq
      exact ⟨y1.symm, y2.symm⟩
    · have : unqB s = false := by
        rw [← Bool.not_eq_true, unqB_iff]
        rintro ⟨t, ht⟩
        obtain ⟨_, a2, a3⟩ := h3 t ht
        rw [a2, a3, he t ht, decide_eq_true ht.symm] at hf
        cases hf
      exact ⟨(unq_no this).symm, this.symm⟩
def tb_specUnquote : List Blk → List AV → Option (List Blk × AV × Prop)
  | [], [.str s] => some ([], .tuple [.str (unqS s), .bool (unqB s)], (s.length ≤ 3000000))
  | _, _ => none
theorem tb_specUnquote_ok : ∀ E args E' res p, tb_specUnquote E args = some (E', res, p) → p → SpecE Tryz.prog 27 E args E' res := by
  intro E args E' res p h hp
  unfold tb_specUnquote at h
  split at h
  · simp only [Option.some.injEq, Prod.mk.injEq] at h
    obtain ⟨rfl, rfl, rfl⟩ := h
    exact (specUnquote _ hp)
  · cases h
end Go.Proofs.Tryz.Scr
end
section
set_option linter.unusedVariables false
set_option linter.unusedSimpArgs false
namespace Go.Proofs.Tryz.Act
open Go Go.Abs Go.Proofs Go.Mdl
def T_specWord : Tbl := fun g E args => nilT g E args
theorem T_specWord_ok : TblOK Tryz.prog T_specWord := nilT_ok
set_option maxRecDepth 100000 in
set_option maxHeartbeats 4000000 in
theorem specWord (op : Int) : SpecE Tryz.prog 50 [] [.int .i64 op] [] (.str (wordS op)) := by
  refine specF0 (C := T_specWord) (wr := false) (D := fun _ => []) (U := fun _ => none) (res := [.str (wordS op)]) Tryz.Ty.mixed T_specWord_ok Tryz.func50 (nA := 1) (by decide +kernel) rfl (fun _ => rfl) ?_
  simp only [Tryz.f50, bodyOf, rlOf]
  rw [W_V]
  simp (config := {maxSteps := 2000000}) only [T_specWord, go_sem, seval]
  (try simp (config := {maxSteps := 2000000}) only [gimp, impB, isT, go_sem, seval])
  refine ⟨fun h => (wordS_none (by omega)).symm, fun h1 h2 => ?_⟩
  rcases op_cases h1 (by omega) with rfl | rfl | rfl | rfl | rfl | rfl | rfl <;> exact ⟨by decide, by decide, trivial, rfl⟩
def tb_specWord : List Blk → List AV → Option (List Blk × AV × Prop)
  | [], [.int .i64 op] => some ([], .str (wordS op), True)
  | _, _ => none
theorem tb_specWord_ok : ∀ E args E' res p, tb_specWord E args = some (E', res, p) → p → SpecE Tryz.prog 50 E args E' res := by
  intro E args E' res p h hp
  unfold tb_specWord at h
  split at h
  · simp only [Option.some.injEq, Prod.mk.injEq] at h
    obtain ⟨rfl, rfl, rfl⟩ := h
    exact (specWord _)
  · cases h
def T_specWithin : Tbl := fun g E args => nilT g E args
theorem T_specWithin_ok : TblOK Tryz.prog T_specWithin := nilT_ok
set_option maxRecDepth 100000 in
set_option maxHeartbeats 4000000 in
theorem specWithin (op n : Int) : SpecE Tryz.prog 64 [] [.int .i64 op, .int .i64 n] [] (.bool (decide (0 ≤ n ∧ ((op = 4 ∨ op = 5) → n ≤ 1048576) ∧ (op = 6 → n ≤ 1073741824) ∧ (¬ (op = 4 ∨ op = 5 ∨ op = 6) → n ≤ 0)))) := by
  refine specF0 (C := T_specWithin) (wr := false) (D := fun _ => []) (U := fun _ => none) (res := [.bool (decide (0 ≤ n ∧ ((op = 4 ∨ op = 5) → n ≤ 1048576) ∧ (op = 6 → n ≤ 1073741824) ∧ (¬ (op = 4 ∨ op = 5 ∨ op = 6) → n ≤ 0)))]) Tryz.Ty.mixed T_specWithin_ok Tryz.func64 (nA := 2) (by decide +kernel) rfl (fun _ => rfl) ?_
  simp only [Tryz.f64, bodyOf, rlOf]
  rw [W_V]
  simp (config := {maxSteps := 2000000}) only [T_specWithin, go_sem, seval]
  (try simp (config := {maxSteps := 2000000}) only [gimp, impB, isT, go_sem, seval])
  (repeat' (first | refine And.intro ?_ ?_ | intro _)) <;> (rw [Bool.eq_iff_iff]; simp only [Bool.and_eq_true, Bool.or_eq_true, decide_eq_true_eq]; omega)
def tb_specWithin : List Blk → List AV → Option (List Blk × AV × Prop)
  | [], [.int .i64 op, .int .i64 n] => some ([], .bool (decide (0 ≤ n ∧ ((op = 4 ∨ op = 5) → n ≤ 1048576) ∧ (op = 6 → n ≤ 1073741824) ∧ (¬ (op = 4 ∨ op = 5 ∨ op = 6) → n ≤ 0))), True)
  | _, _ => none
theorem tb_specWithin_ok : ∀ E args E' res p, tb_specWithin E args = some (E', res, p) → p → SpecE Tryz.prog 64 E args E' res := by
  intro E args E' res p h hp
  unfold tb_specWithin at h
  split at h
  · simp only [Option.some.injEq, Prod.mk.injEq] at h
    obtain ⟨rfl, rfl, rfl⟩ := h
    exact (specWithin _ _)
  · cases h
def T_specPlaced : Tbl := fun g E args => nilT g E args
theorem T_specPlaced_ok : TblOK Tryz.prog T_specPlaced := nilT_ok
set_option maxRecDepth 100000 in
set_option maxHeartbeats 4000000 in
theorem specPlaced (op cl og : Int) : SpecE Tryz.prog 63 [] [.int .i64 op, .agg [.int .i64 cl, .int .i64 og]] [] (.bool (decide ((op = 6 → cl = 0 ∧ og = 0) ∧ (¬ op = 6 → 0 ≤ cl ∧ cl < 16 ∧ 0 ≤ og ∧ og ≤ 1000 ∧ ((op = 1 ∨ op = 7) → og = 0))))) := by
  refine specF0 (C := T_specPlaced) (wr := false) (D := fun _ => []) (U := fun _ => none) (res := [.bool (decide ((op = 6 → cl = 0 ∧ og = 0) ∧ (¬ op = 6 → 0 ≤ cl ∧ cl < 16 ∧ 0 ≤ og ∧ og ≤ 1000 ∧ ((op = 1 ∨ op = 7) → og = 0))))]) Tryz.Ty.mixed T_specPlaced_ok Tryz.func63 (nA := 2) (by decide +kernel) rfl (fun _ => rfl) ?_
  simp only [Tryz.f63, bodyOf, rlOf]
  rw [W_V]
  simp (config := {maxSteps := 2000000}) only [T_specPlaced, go_sem, seval]
  (try simp (config := {maxSteps := 2000000}) only [gimp, impB, isT, go_sem, seval])
  (repeat' (first | refine And.intro ?_ ?_ | intro _)) <;> (rw [Bool.eq_iff_iff]; simp only [Bool.and_eq_true, Bool.or_eq_true, decide_eq_true_eq]; omega)
def tb_specPlaced : List Blk → List AV → Option (List Blk × AV × Prop)
  | [], [.int .i64 op, .agg [.int .i64 cl, .int .i64 og]] => some ([], .bool (decide ((op = 6 → cl = 0 ∧ og = 0) ∧ (¬ op = 6 → 0 ≤ cl ∧ cl < 16 ∧ 0 ≤ og ∧ og ≤ 1000 ∧ ((op = 1 ∨ op = 7) → og = 0)))), True)
  | _, _ => none
theorem tb_specPlaced_ok : ∀ E args E' res p, tb_specPlaced E args = some (E', res, p) → p → SpecE Tryz.prog 63 E args E' res := by
  intro E args E' res p h hp
  unfold tb_specPlaced at h
  split at h
  · simp only [Option.some.injEq, Prod.mk.injEq] at h
    obtain ⟨rfl, rfl, rfl⟩ := h
    exact (specPlaced _ _ _)
  · cases h
def T_specRight : Tbl := fun g E args => (addT (addT (addT nilT 50 Go.Proofs.Tryz.Act.tb_specWord) 64 Go.Proofs.Tryz.Act.tb_specWithin) 63 Go.Proofs.Tryz.Act.tb_specPlaced) g E args
theorem T_specRight_ok : TblOK Tryz.prog T_specRight := (addT_ok (addT_ok (addT_ok nilT_ok (by decide +kernel) Go.Proofs.Tryz.Act.tb_specWord_ok) (by decide +kernel) Go.Proofs.Tryz.Act.tb_specWithin_ok) (by decide +kernel) Go.Proofs.Tryz.Act.tb_specPlaced_ok)
set_option maxRecDepth 100000 in
set_option maxHeartbeats 4000000 in
theorem specRight (op cl og n : Int) (t : List UInt8) : SpecE Tryz.prog 33 [] [.agg [.int .i64 op, .int .i64 cl, .int .i64 og, .int .i64 n, .str t]] [] (.bool (rightE ⟨op, cl, og, n, t⟩)) := by
  refine specF0 (C := T_specRight) (wr := false) (D := fun _ => []) (U := fun _ => none) (res := [.bool (rightE ⟨op, cl, og, n, t⟩)]) Tryz.Ty.mixed T_specRight_ok Tryz.func33 (nA := 1) (by decide +kernel) rfl (fun _ => rfl) ?_
  simp only [Tryz.f33, bodyOf, rlOf]
  rw [W_V]
  simp (config := {maxSteps := 2000000}) only [T_specRight, Go.Proofs.Tryz.Act.tb_specWord, Go.Proofs.Tryz.Act.tb_specWithin, Go.Proofs.Tryz.Act.tb_specPlaced, go_sem, seval]
  (try simp (config := {maxSteps := 2000000}) only [gimp, impB, isT, go_sem, seval])
  have ht : t = [] ↔ t.length = 0 := List.length_eq_zero_iff.symm
  refine ⟨fun h => ?_, fun h1 h2 h3 h4 h5 h6 h7 => ?_⟩
  · rw [wordS_iff] at h
    symm
    rw [← Bool.not_eq_true, rightE_iff]
    unfold RightP
    simp only
    omega
  · rw [wordS_iff] at h1
    rw [Bool.eq_iff_iff, rightE_iff]
    unfold RightP
    simp only [Bool.and_eq_true, Bool.or_eq_true, decide_eq_true_eq, ht]
    omega
def tb_specRight : List Blk → List AV → Option (List Blk × AV × Prop)
  | [], [.agg [.int .i64 op, .int .i64 cl, .int .i64 og, .int .i64 n, .str t]] => some ([], .bool (rightE ⟨op, cl, og, n, t⟩), True)
  | _, _ => none
theorem tb_specRight_ok : ∀ E args E' res p, tb_specRight E args = some (E', res, p) → p → SpecE Tryz.prog 33 E args E' res := by
  intro E args E' res p h hp
  unfold tb_specRight at h
  split at h
  · simp only [Option.some.injEq, Prod.mk.injEq] at h
    obtain ⟨rfl, rfl, rfl⟩ := h
    exact (specRight _ _ _ _ _)
  · cases h
def T_specOf1 : Tbl := fun g E args => (addT nilT 33 Go.Proofs.Tryz.Act.tb_specRight) g E args
theorem T_specOf1_ok : TblOK Tryz.prog T_specOf1 := (addT_ok nilT_ok (by decide +kernel) Go.Proofs.Tryz.Act.tb_specRight_ok)
set_option maxRecDepth 100000 in
set_option maxHeartbeats 4000000 in
theorem specOf1 (cl og n : Int) (t : List UInt8) (h : rightE ⟨1, cl, og, n, t⟩ = true) : SpecE Tryz.prog 71 [] [.agg [.int .i64 1, .int .i64 cl, .int .i64 og, .int .i64 n, .str t]] [] (.tuple [.iface 135 (.agg [.int .i64 cl]), .bool true]) := by
  refine specF0 (C := T_specOf1) (wr := false) (D := fun _ => []) (U := fun _ => none) (res := [.iface 135 (.agg [.int .i64 cl]), .bool true]) Tryz.Ty.mixed T_specOf1_ok Tryz.func71 (nA := 1) (by decide +kernel) rfl (fun _ => rfl) ?_
  simp only [Tryz.f71, bodyOf, rlOf]
  rw [W_V]
  simp (config := {maxSteps := 2000000}) only [T_specOf1, Go.Proofs.Tryz.Act.tb_specRight, go_sem, seval, h]
  (try simp (config := {maxSteps := 2000000}) only [gimp, impB, isT, go_sem, seval])
def T_specOf2 : Tbl := fun g E args => (addT nilT 33 Go.Proofs.Tryz.Act.tb_specRight) g E args
theorem T_specOf2_ok : TblOK Tryz.prog T_specOf2 := (addT_ok nilT_ok (by decide +kernel) Go.Proofs.Tryz.Act.tb_specRight_ok)
set_option maxRecDepth 100000 in
set_option maxHeartbeats 4000000 in
theorem specOf2 (cl og n : Int) (t : List UInt8) (h : rightE ⟨2, cl, og, n, t⟩ = true) : SpecE Tryz.prog 71 [] [.agg [.int .i64 2, .int .i64 cl, .int .i64 og, .int .i64 n, .str t]] [] (.tuple [.iface 110 (.agg [.int .i64 cl, .int .i64 og, .str t]), .bool true]) := by
  refine specF0 (C := T_specOf2) (wr := false) (D := fun _ => []) (U := fun _ => none) (res := [.iface 110 (.agg [.int .i64 cl, .int .i64 og, .str t]), .bool true]) Tryz.Ty.mixed T_specOf2_ok Tryz.func71 (nA := 1) (by decide +kernel) rfl (fun _ => rfl) ?_
  simp only [Tryz.f71, bodyOf, rlOf]
  rw [W_V]
  simp (config := {maxSteps := 2000000}) only [T_specOf2, Go.Proofs.Tryz.Act.tb_specRight, go_sem, seval, h]
  (try simp (config := {maxSteps := 2000000}) only [gimp, impB, isT, go_sem, seval])
def T_specOf3 : Tbl := fun g E args => (addT nilT 33 Go.Proofs.Tryz.Act.tb_specRight) g E args
theorem T_specOf3_ok : TblOK Tryz.prog T_specOf3 := (addT_ok nilT_ok (by decide +kernel) Go.Proofs.Tryz.Act.tb_specRight_ok)
set_option maxRecDepth 100000 in
set_option maxHeartbeats 4000000 in
theorem specOf3 (cl og n : Int) (t : List UInt8) (h : rightE ⟨3, cl, og, n, t⟩ = true) : SpecE Tryz.prog 71 [] [.agg [.int .i64 3, .int .i64 cl, .int .i64 og, .int .i64 n, .str t]] [] (.tuple [.iface 112 (.agg [.int .i64 cl, .int .i64 og]), .bool true]) := by
  refine specF0 (C := T_specOf3) (wr := false) (D := fun _ => []) (U := fun _ => none) (res := [.iface 112 (.agg [.int .i64 cl, .int .i64 og]), .bool true]) Tryz.Ty.mixed T_specOf3_ok Tryz.func71 (nA := 1) (by decide +kernel) rfl (fun _ => rfl) ?_
  simp only [Tryz.f71, bodyOf, rlOf]
  rw [W_V]
  simp (config := {maxSteps := 2000000}) only [T_specOf3, Go.Proofs.Tryz.Act.tb_specRight, go_sem, seval, h]
  (try simp (config := {maxSteps := 2000000}) only [gimp, impB, isT, go_sem, seval])
def T_specOf4 : Tbl := fun g E args => (addT nilT 33 Go.Proofs.Tryz.Act.tb_specRight) g E args
theorem T_specOf4_ok : TblOK Tryz.prog T_specOf4 := (addT_ok nilT_ok (by decide +kernel) Go.Proofs.Tryz.Act.tb_specRight_ok)
set_option maxRecDepth 100000 in
set_option maxHeartbeats 4000000 in
theorem specOf4 (cl og n : Int) (t : List UInt8) (h : rightE ⟨4, cl, og, n, t⟩ = true) : SpecE Tryz.prog 71 [] [.agg [.int .i64 4, .int .i64 cl, .int .i64 og, .int .i64 n, .str t]] [] (.tuple [.iface 114 (.agg [.int .i64 cl, .int .i64 og, .int .i64 n]), .bool true]) := by
  refine specF0 (C := T_specOf4) (wr := false) (D := fun _ => []) (U := fun _ => none) (res := [.iface 114 (.agg [.int .i64 cl, .int .i64 og, .int .i64 n]), .bool true]) Tryz.Ty.mixed T_specOf4_ok Tryz.func71 (nA := 1) (by decide +kernel) rfl (fun _ => rfl) ?_
  simp only [Tryz.f71, bodyOf, rlOf]
  rw [W_V]
  simp (config := {maxSteps := 2000000}) only [T_specOf4, Go.Proofs.Tryz.Act.tb_specRight, go_sem, seval, h]
  (try simp (config := {maxSteps := 2000000}) only [gimp, impB, isT, go_sem, seval])
def T_specOf5 : Tbl := fun g E args => (addT nilT 33 Go.Proofs.Tryz.Act.tb_specRight) g E args
theorem T_specOf5_ok : TblOK Tryz.prog T_specOf5 := (addT_ok nilT_ok (by decide +kernel) Go.Proofs.Tryz.Act.tb_specRight_ok)
set_option maxRecDepth 100000 in
set_option maxHeartbeats 4000000 in
theorem specOf5 (cl og n : Int) (t : List UInt8) (h : rightE ⟨5, cl, og, n, t⟩ = true) : SpecE Tryz.prog 71 [] [.agg [.int .i64 5, .int .i64 cl, .int .i64 og, .int .i64 n, .str t]] [] (.tuple [.iface 115 (.agg [.int .i64 cl, .int .i64 og, .int .i64 n]), .bool true]) := by
  refine specF0 (C := T_specOf5) (wr := false) (D := fun _ => []) (U := fun _ => none) (res := [.iface 115 (.agg [.int .i64 cl, .int .i64 og, .int .i64 n]), .bool true]) Tryz.Ty.mixed T_specOf5_ok Tryz.func71 (nA := 1) (by decide +kernel) rfl (fun _ => rfl) ?_
  simp only [Tryz.f71, bodyOf, rlOf]
  rw [W_V]
  simp (config := {maxSteps := 2000000}) only [T_specOf5, Go.Proofs.Tryz.Act.tb_specRight, go_sem, seval, h]
  (try simp (config := {maxSteps := 2000000}) only [gimp, impB, isT, go_sem, seval])
def T_specOf6 : Tbl := fun g E args => (addT nilT 33 Go.Proofs.Tryz.Act.tb_specRight) g E args
theorem T_specOf6_ok : TblOK Tryz.prog T_specOf6 := (addT_ok nilT_ok (by decide +kernel) Go.Proofs.Tryz.Act.tb_specRight_ok)
set_option maxRecDepth 100000 in
set_option maxHeartbeats 4000000 in
theorem specOf6 (cl og n : Int) (t : List UInt8) (h : rightE ⟨6, cl, og, n, t⟩ = true) : SpecE Tryz.prog 71 [] [.agg [.int .i64 6, .int .i64 cl, .int .i64 og, .int .i64 n, .str t]] [] (.tuple [.iface 107 (.agg [.int .i64 n]), .bool true]) := by
  refine specF0 (C := T_specOf6) (wr := false) (D := fun _ => []) (U := fun _ => none) (res := [.iface 107 (.agg [.int .i64 n]), .bool true]) Tryz.Ty.mixed T_specOf6_ok Tryz.func71 (nA := 1) (by decide +kernel) rfl (fun _ => rfl) ?_
  simp only [Tryz.f71, bodyOf, rlOf]
  rw [W_V]
  simp (config := {maxSteps := 2000000}) only [T_specOf6, Go.Proofs.Tryz.Act.tb_specRight, go_sem, seval, h]
  (try simp (config := {maxSteps := 2000000}) only [gimp, impB, isT, go_sem, seval])
def T_specOf7 : Tbl := fun g E args => (addT nilT 33 Go.Proofs.Tryz.Act.tb_specRight) g E args
theorem T_specOf7_ok : TblOK Tryz.prog T_specOf7 := (addT_ok nilT_ok (by decide +kernel) Go.Proofs.Tryz.Act.tb_specRight_ok)
set_option maxRecDepth 100000 in
set_option maxHeartbeats 4000000 in
theorem specOf7 (cl og n : Int) (t : List UInt8) (h : rightE ⟨7, cl, og, n, t⟩ = true) : SpecE Tryz.prog 71 [] [.agg [.int .i64 7, .int .i64 cl, .int .i64 og, .int .i64 n, .str t]] [] (.tuple [.iface 136 (.agg [.int .i64 cl]), .bool true]) := by
  refine specF0 (C := T_specOf7) (wr := false) (D := fun _ => []) (U := fun _ => none) (res := [.iface 136 (.agg [.int .i64 cl]), .bool true]) Tryz.Ty.mixed T_specOf7_ok Tryz.func71 (nA := 1) (by decide +kernel) rfl (fun _ => rfl) ?_
  simp only [Tryz.f71, bodyOf, rlOf]
  rw [W_V]
  simp (config := {maxSteps := 2000000}) only [T_specOf7, Go.Proofs.Tryz.Act.tb_specRight, go_sem, seval, h]
  (try simp (config := {maxSteps := 2000000}) only [gimp, impB, isT, go_sem, seval])
def tb_of : List Blk → List AV → Option (List Blk × AV × Prop)
  | [], [.agg [.int .i64 1, .int .i64 cl, .int .i64 og, .int .i64 n, .str t]] => some ([], .tuple [.iface 135 (.agg [.int .i64 cl]), .bool true], rightE ⟨1, cl, og, n, t⟩ = true)
  | [], [.agg [.int .i64 2, .int .i64 cl, .int .i64 og, .int .i64 n, .str t]] => some ([], .tuple [.iface 110 (.agg [.int .i64 cl, .int .i64 og, .str t]), .bool true], rightE ⟨2, cl, og, n, t⟩ = true)
  | [], [.agg [.int .i64 3, .int .i64 cl, .int .i64 og, .int .i64 n, .str t]] => some ([], .tuple [.iface 112 (.agg [.int .i64 cl, .int .i64 og]), .bool true], rightE ⟨3, cl, og, n, t⟩ = true)
  | [], [.agg [.int .i64 4, .int .i64 cl, .int .i64 og, .int .i64 n, .str t]] => some ([], .tuple [.iface 114 (.agg [.int .i64 cl, .int .i64 og, .int .i64 n]), .bool true], rightE ⟨4, cl, og, n, t⟩ = true)
  | [], [.agg [.int .i64 5, .int .i64 cl, .int .i64 og, .int .i64 n, .str t]] => some ([], .tuple [.iface 115 (.agg [.int .i64 cl, .int .i64 og, .int .i64 n]), .bool true], rightE ⟨5, cl, og, n, t⟩ = true)
  | [], [.agg [.int .i64 6, .int .i64 cl, .int .i64 og, .int .i64 n, .str t]] => some ([], .tuple [.iface 107 (.agg [.int .i64 n]), .bool true], rightE ⟨6, cl, og, n, t⟩ = true)
  | [], [.agg [.int .i64 7, .int .i64 cl, .int .i64 og, .int .i64 n, .str t]] => some ([], .tuple [.iface 136 (.agg [.int .i64 cl]), .bool true], rightE ⟨7, cl, og, n, t⟩ = true)
  | _, _ => none
theorem tb_of_ok : ∀ E args E' res q, tb_of E args = some (E', res, q) → q → SpecE Tryz.prog 71 E args E' res := by
  intro E args E' res q h hq
  unfold tb_of at h
  split at h
  · simp only [Option.some.injEq, Prod.mk.injEq] at h
    obtain ⟨rfl, rfl, rfl⟩ := h
    exact specOf1 _ _ _ _ hq
  · simp only [Option.some.injEq, Prod.mk.injEq] at h
    obtain ⟨rfl, rfl, rfl⟩ := h
    exact specOf2 _ _ _ _ hq
  · simp only [Option.some.injEq, Prod.mk.injEq] at h
    obtain ⟨rfl, rfl, rfl⟩ := h
    exact specOf3 _ _ _ _ hq
  · simp only [Option.some.injEq, Prod.mk.injEq] at h
    obtain ⟨rfl, rfl, rfl⟩ := h
    exact specOf4 _ _ _ _ hq
  · simp only [Option.some.injEq, Prod.mk.injEq] at h
    obtain ⟨rfl, rfl, rfl⟩ := h
    exact specOf5 _ _ _ _ hq
  · simp only [Option.some.injEq, Prod.mk.injEq] at h
    obtain ⟨rfl, rfl, rfl⟩ := h
    exact specOf6 _ _ _ _ hq
  · simp only [Option.some.injEq, Prod.mk.injEq] at h
    obtain ⟨rfl, rfl, rfl⟩ := h
    exact specOf7 _ _ _ _ hq
  · cases h
end Go.Proofs.Tryz.Act
end
section
set_option linter.unusedVariables false
set_option linter.unusedSimpArgs false
namespace Go.Proofs.Tryz.Act
open Go Go.Abs Go.Proofs Go.Mdl
def T_specLine1 : Tbl := fun g E args => (addT (addT (addT (addT nilT 50 Go.Proofs.Tryz.Act.tb_specWord) 71 Go.Proofs.Tryz.Act.tb_of) 19 Go.Proofs.Tryz.Dig.tb_specText) 58 Go.Proofs.Tryz.Scr.tb_specQuote) g E args
theorem T_specLine1_ok : TblOK Tryz.prog T_specLine1 := (addT_ok (addT_ok (addT_ok (addT_ok nilT_ok (by decide +kernel) Go.Proofs.Tryz.Act.tb_specWord_ok) (by decide +kernel) Go.Proofs.Tryz.Act.tb_of_ok) (by decide +kernel) Go.Proofs.Tryz.Dig.tb_specText_ok) (by decide +kernel) Go.Proofs.Tryz.Scr.tb_specQuote_ok)
set_option maxRecDepth 100000 in
set_option maxHeartbeats 4000000 in
theorem specLine1 (cl og n : Int) (t : List UInt8) (h : rightE ⟨1, cl, og, n, t⟩ = true) : SpecE Tryz.prog 37 [] [.agg [.int .i64 1, .int .i64 cl, .int .i64 og, .int .i64 n, .str t]] [] (.str (evLine ⟨1, cl, og, n, t⟩)) := by
  refine specF0 (C := T_specLine1) (wr := false) (D := fun _ => []) (U := fun _ => none) (res := [.str (evLine ⟨1, cl, og, n, t⟩)]) Tryz.Ty.mixed T_specLine1_ok Tryz.func37 (nA := 1) (by decide +kernel) rfl (fun _ => rfl) ?_
  simp only [Tryz.f37, bodyOf, rlOf]
  rw [W_V]
  simp (config := {maxSteps := 2000000}) only [T_specLine1, Go.Proofs.Tryz.Act.tb_specWord, Go.Proofs.Tryz.Act.tb_of, Go.Proofs.Tryz.Dig.tb_specText, Go.Proofs.Tryz.Scr.tb_specQuote, go_sem, seval, wordS]
  (try simp (config := {maxSteps := 2000000}) only [gimp, impB, isT, go_sem, seval])
  have hr := (rightE_iff _).1 h
  unfold RightP at hr
  dsimp only at hr
  have l1 := textI_len cl
  have l2 := textI_len og
  have l3 := textI_len n
  have l4 := quote_len t
  refine ⟨h, ?_⟩
  (try simp only [List.length_append, List.length_cons, List.length_nil])
  and_intros <;> first | omega | (simp [evLine, wordS])
def T_specLine2 : Tbl := fun g E args => (addT (addT (addT (addT nilT 50 Go.Proofs.Tryz.Act.tb_specWord) 71 Go.Proofs.Tryz.Act.tb_of) 19 Go.Proofs.Tryz.Dig.tb_specText) 58 Go.Proofs.Tryz.Scr.tb_specQuote) g E args
theorem T_specLine2_ok : TblOK Tryz.prog T_specLine2 := (addT_ok (addT_ok (addT_ok (addT_ok nilT_ok (by decide +kernel) Go.Proofs.Tryz.Act.tb_specWord_ok) (by decide +kernel) Go.Proofs.Tryz.Act.tb_of_ok) (by decide +kernel) Go.Proofs.Tryz.Dig.tb_specText_ok) (by decide +kernel) Go.Proofs.Tryz.Scr.tb_specQuote_ok)
set_option maxRecDepth 100000 in
set_option maxHeartbeats 4000000 in
theorem specLine2 (cl og n : Int) (t : List UInt8) (h : rightE ⟨2, cl, og, n, t⟩ = true) : SpecE Tryz.prog 37 [] [.agg [.int .i64 2, .int .i64 cl, .int .i64 og, .int .i64 n, .str t]] [] (.str (evLine ⟨2, cl, og, n, t⟩)) := by
  refine specF0 (C := T_specLine2) (wr := false) (D := fun _ => []) (U := fun _ => none) (res := [.str (evLine ⟨2, cl, og, n, t⟩)]) Tryz.Ty.mixed T_specLine2_ok Tryz.func37 (nA := 1) (by decide +kernel) rfl (fun _ => rfl) ?_
  simp only [Tryz.f37, bodyOf, rlOf]
  rw [W_V]
  simp (config := {maxSteps := 2000000}) only [T_specLine2, Go.Proofs.Tryz.Act.tb_specWord, Go.Proofs.Tryz.Act.tb_of, Go.Proofs.Tryz.Dig.tb_specText, Go.Proofs.Tryz.Scr.tb_specQuote, go_sem, seval, wordS]
  (try simp (config := {maxSteps := 2000000}) only [gimp, impB, isT, go_sem, seval])
  have hr := (rightE_iff _).1 h
  unfold RightP at hr
  dsimp only at hr
  have l1 := textI_len cl
  have l2 := textI_len og
  have l3 := textI_len n
  have l4 := quote_len t
  refine ⟨h, ?_⟩
  (try simp only [List.length_append, List.length_cons, List.length_nil])
  and_intros <;> first | omega | (simp [evLine, wordS])
def T_specLine3 : Tbl := fun g E args => (addT (addT (addT (addT nilT 50 Go.Proofs.Tryz.Act.tb_specWord) 71 Go.Proofs.Tryz.Act.tb_of) 19 Go.Proofs.Tryz.Dig.tb_specText) 58 Go.Proofs.Tryz.Scr.tb_specQuote) g E args
theorem T_specLine3_ok : TblOK Tryz.prog T_specLine3 := (addT_ok (addT_ok (addT_ok (addT_ok nilT_ok (by decide +kernel) Go.Proofs.Tryz.Act.tb_specWord_ok) (by decide +kernel) Go.Proofs.Tryz.Act.tb_of_ok) (by decide +kernel) Go.Proofs.Tryz.Dig.tb_specText_ok) (by decide +kernel) Go.Proofs.Tryz.Scr.tb_specQuote_ok)
set_option maxRecDepth 100000 in
set_option maxHeartbeats 4000000 in
theorem specLine3 (cl og n : Int) (t : List UInt8) (h : rightE ⟨3, cl, og, n, t⟩ = true) : SpecE Tryz.prog 37 [] [.agg [.int .i64 3, .int .i64 cl, .int .i64 og, .int .i64 n, .str t]] [] (.str (evLine ⟨3, cl, og, n, t⟩)) := by
  refine specF0 (C := T_specLine3) (wr := false) (D := fun _ => []) (U := fun _ => none) (res := [.str (evLine ⟨3, cl, og, n, t⟩)]) Tryz.Ty.mixed T_specLine3_ok Tryz.func37 (nA := 1) (by decide +kernel) rfl (fun _ => rfl) ?_
  simp only [Tryz.f37, bodyOf, rlOf]
  rw [W_V]
  simp (config := {maxSteps := 2000000}) only [T_specLine3, Go.Proofs.Tryz.Act.tb_specWord, Go.Proofs.Tryz.Act.tb_of, Go.Proofs.Tryz.Dig.tb_specText, Go.Proofs.Tryz.Scr.tb_specQuote, go_sem, seval, wordS]
  (try simp (config := {maxSteps := 2000000}) only [gimp, impB, isT, go_sem, seval])
  have hr := (rightE_iff _).1 h
  unfold RightP at hr
  dsimp only at hr
  have l1 := textI_len cl
  have l2 := textI_len og
  have l3 := textI_len n
  have l4 := quote_len t
  refine ⟨h, ?_⟩
  (try simp only [List.length_append, List.length_cons, List.length_nil])
  and_intros <;> first | omega | (simp [evLine, wordS])
def T_specLine4 : Tbl := fun g E args => (addT (addT (addT (addT nilT 50 Go.Proofs.Tryz.Act.tb_specWord) 71 Go.Proofs.Tryz.Act.tb_of) 19 Go.Proofs.Tryz.Dig.tb_specText) 58 Go.Proofs.Tryz.Scr.tb_specQuote) g E args
theorem T_specLine4_ok : TblOK Tryz.prog T_specLine4 := (addT_ok (addT_ok (addT_ok (addT_ok nilT_ok (by decide +kernel) Go.Proofs.Tryz.Act.tb_specWord_ok) (by decide +kernel) Go.Proofs.Tryz.Act.tb_of_ok) (by decide +kernel) Go.Proofs.Tryz.Dig.tb_specText_ok) (by decide +kernel) Go.Proofs.Tryz.Scr.tb_specQuote_ok)
set_option maxRecDepth 100000 in
set_option maxHeartbeats 4000000 in
theorem specLine4 (cl og n : Int) (t : List UInt8) (h : rightE ⟨4, cl, og, n, t⟩ = true) : SpecE Tryz.prog 37 [] [.agg [.int .i64 4, .int .i64 cl, .int .i64 og, .int .i64 n, .str t]] [] (.str (evLine ⟨4, cl, og, n, t⟩)) := by
  refine specF0 (C := T_specLine4) (wr := false) (D := fun _ => []) (U := fun _ => none) (res := [.str (evLine ⟨4, cl, og, n, t⟩)]) Tryz.Ty.mixed T_specLine4_ok Tryz.func37 (nA := 1) (by decide +kernel) rfl (fun _ => rfl) ?_
  simp only [Tryz.f37, bodyOf, rlOf]
  rw [W_V]
  simp (config := {maxSteps := 2000000}) only [T_specLine4, Go.Proofs.Tryz.Act.tb_specWord, Go.Proofs.Tryz.Act.tb_of, Go.Proofs.Tryz.Dig.tb_specText, Go.Proofs.Tryz.Scr.tb_specQuote, go_sem, seval, wordS]
  (try simp (config := {maxSteps := 2000000}) only [gimp, impB, isT, go_sem, seval])
  have hr := (rightE_iff _).1 h
  unfold RightP at hr
  dsimp only at hr
  have l1 := textI_len cl
  have l2 := textI_len og
  have l3 := textI_len n
  have l4 := quote_len t
  refine ⟨h, ?_⟩
  (try simp only [List.length_append, List.length_cons, List.length_nil])
  and_intros <;> first | omega | (simp [evLine, wordS])
def T_specLine5 : Tbl := fun g E args => (addT (addT (addT (addT nilT 50 Go.Proofs.Tryz.Act.tb_specWord) 71 Go.Proofs.Tryz.Act.tb_of) 19 Go.Proofs.Tryz.Dig.tb_specText) 58 Go.Proofs.Tryz.Scr.tb_specQuote) g E args
theorem T_specLine5_ok : TblOK Tryz.prog T_specLine5 := (addT_ok (addT_ok (addT_ok (addT_ok nilT_ok (by decide +kernel) Go.Proofs.Tryz.Act.tb_specWord_ok) (by decide +kernel) Go.Proofs.Tryz.Act.tb_of_ok) (by decide +kernel) Go.Proofs.Tryz.Dig.tb_specText_ok) (by decide +kernel) Go.Proofs.Tryz.Scr.tb_specQuote_ok)
set_option maxRecDepth 100000 in
set_option maxHeartbeats 4000000 in
theorem specLine5 (cl og n : Int) (t : List UInt8) (h : rightE ⟨5, cl, og, n, t⟩ = true) : SpecE Tryz.prog 37 [] [.agg [.int .i64 5, .int .i64 cl, .int .i64 og, .int .i64 n, .str t]] [] (.str (evLine ⟨5, cl, og, n, t⟩)) := by
  refine specF0 (C := T_specLine5) (wr := false) (D := fun _ => []) (U := fun _ => none) (res := [.str (evLine ⟨5, cl, og, n, t⟩)]) Tryz.Ty.mixed T_specLine5_ok Tryz.func37 (nA := 1) (by decide +kernel) rfl (fun _ => rfl) ?_
  simp only [Tryz.f37, bodyOf, rlOf]
  rw [W_V]
  simp (config := {maxSteps := 2000000}) only [T_specLine5, Go.Proofs.Tryz.Act.tb_specWord, Go.Proofs.Tryz.Act.tb_of, Go.Proofs.Tryz.Dig.tb_specText, Go.Proofs.Tryz.Scr.tb_specQuote, go_sem, seval, wordS]
  (try simp (config := {maxSteps := 2000000}) only [gimp, impB, isT, go_sem, seval])
  have hr := (rightE_iff _).1 h
  unfold RightP at hr
  dsimp only at hr
  have l1 := textI_len cl
  have l2 := textI_len og
  have l3 := textI_len n
  have l4 := quote_len t
  refine ⟨h, ?_⟩
  (try simp only [List.length_append, List.length_cons, List.length_nil])
  and_intros <;> first | omega | (simp [evLine, wordS])
def T_specLine6 : Tbl := fun g E args => (addT (addT (addT (addT nilT 50 Go.Proofs.Tryz.Act.tb_specWord) 71 Go.Proofs.Tryz.Act.tb_of) 19 Go.Proofs.Tryz.Dig.tb_specText) 58 Go.Proofs.Tryz.Scr.tb_specQuote) g E args
theorem T_specLine6_ok : TblOK Tryz.prog T_specLine6 := (addT_ok (addT_ok (addT_ok (addT_ok nilT_ok (by decide +kernel) Go.Proofs.Tryz.Act.tb_specWord_ok) (by decide +kernel) Go.Proofs.Tryz.Act.tb_of_ok) (by decide +kernel) Go.Proofs.Tryz.Dig.tb_specText_ok) (by decide +kernel) Go.Proofs.Tryz.Scr.tb_specQuote_ok)
set_option maxRecDepth 100000 in
set_option maxHeartbeats 4000000 in
theorem specLine6 (cl og n : Int) (t : List UInt8) (h : rightE ⟨6, cl, og, n, t⟩ = true) : SpecE Tryz.prog 37 [] [.agg [.int .i64 6, .int .i64 cl, .int .i64 og, .int .i64 n, .str t]] [] (.str (evLine ⟨6, cl, og, n, t⟩)) := by
  refine specF0 (C := T_specLine6) (wr := false) (D := fun _ => []) (U := fun _ => none) (res := [.str (evLine ⟨6, cl, og, n, t⟩)]) Tryz.Ty.mixed T_specLine6_ok Tryz.func37 (nA := 1) (by decide +kernel) rfl (fun _ => rfl) ?_
  simp only [Tryz.f37, bodyOf, rlOf]
  rw [W_V]
  simp (config := {maxSteps := 2000000}) only [T_specLine6, Go.Proofs.Tryz.Act.tb_specWord, Go.Proofs.Tryz.Act.tb_of, Go.Proofs.Tryz.Dig.tb_specText, Go.Proofs.Tryz.Scr.tb_specQuote, go_sem, seval, wordS]
  (try simp (config := {maxSteps := 2000000}) only [gimp, impB, isT, go_sem, seval])
  have hr := (rightE_iff _).1 h
  unfold RightP at hr
  dsimp only at hr
  have l1 := textI_len cl
  have l2 := textI_len og
  have l3 := textI_len n
  have l4 := quote_len t
  refine ⟨h, ?_⟩
  (try simp only [List.length_append, List.length_cons, List.length_nil])
  and_intros <;> first | omega | (simp [evLine, wordS])
def T_specLine7 : Tbl := fun g E args => (addT (addT (addT (addT nilT 50 Go.Proofs.Tryz.Act.tb_specWord) 71 Go.Proofs.Tryz.Act.tb_of) 19 Go.Proofs.Tryz.Dig.tb_specText) 58 Go.Proofs.Tryz.Scr.tb_specQuote) g E args
theorem T_specLine7_ok : TblOK Tryz.prog T_specLine7 := (addT_ok (addT_ok (addT_ok (addT_ok nilT_ok (by decide +kernel) Go.Proofs.Tryz.Act.tb_specWord_ok) (by decide +kernel) Go.Proofs.Tryz.Act.tb_of_ok) (by decide +kernel) Go.Proofs.Tryz.Dig.tb_specText_ok) (by decide +kernel) Go.Proofs.Tryz.Scr.tb_specQuote_ok)
set_option maxRecDepth 100000 in
set_option maxHeartbeats 4000000 in
theorem specLine7 (cl og n : Int) (t : List UInt8) (h : rightE ⟨7, cl, og, n, t⟩ = true) : SpecE Tryz.prog 37 [] [.agg [.int .i64 7, .int .i64 cl, .int .i64 og, .int .i64 n, .str t]] [] (.str (evLine ⟨7, cl, og, n, t⟩)) := by
  refine specF0 (C := T_specLine7) (wr := false) (D := fun _ => []) (U := fun _ => none) (res := [.str (evLine ⟨7, cl, og, n, t⟩)]) Tryz.Ty.mixed T_specLine7_ok Tryz.func37 (nA := 1) (by decide +kernel) rfl (fun _ => rfl) ?_
  simp only [Tryz.f37, bodyOf, rlOf]
  rw [W_V]
  simp (config := {maxSteps := 2000000}) only [T_specLine7, Go.Proofs.Tryz.Act.tb_specWord, Go.Proofs.Tryz.Act.tb_of, Go.Proofs.Tryz.Dig.tb_specText, Go.Proofs.Tryz.Scr.tb_specQuote, go_sem, seval, wordS]
  (try simp (config := {maxSteps := 2000000}) only [gimp, impB, isT, go_sem, seval])
  have hr := (rightE_iff _).1 h
  unfold RightP at hr
  dsimp only at hr
  have l1 := textI_len cl
  have l2 := textI_len og
  have l3 := textI_len n
  have l4 := quote_len t
  refine ⟨h, ?_⟩
  (try simp only [List.length_append, List.length_cons, List.length_nil])
  and_intros <;> first | omega | (simp [evLine, wordS])
def tb_line : List Blk → List AV → Option (List Blk × AV × Prop)
  | [], [.agg [.int .i64 op, .int .i64 cl, .int .i64 og, .int .i64 n, .str t]] => some ([], .str (evLine ⟨op, cl, og, n, t⟩), rightE ⟨op, cl, og, n, t⟩ = true)
  | _, _ => none
theorem tb_line_ok : ∀ E args E' res q, tb_line E args = some (E', res, q) → q → SpecE Tryz.prog 37 E args E' res := by
  intro E args E' res q h hq
  unfold tb_line at h
  split at h
  · rename_i op cl og n t
    simp only [Option.some.injEq, Prod.mk.injEq] at h
    obtain ⟨rfl, rfl, rfl⟩ := h
    have hr := (rightE_iff _).1 hq
    unfold RightP at hr
    dsimp only at hr
    rcases op_cases hr.1 hr.2.1 with rfl | rfl | rfl | rfl | rfl | rfl | rfl
    · exact specLine1 _ _ _ _ hq
    · exact specLine2 _ _ _ _ hq
    · exact specLine3 _ _ _ _ hq
    · exact specLine4 _ _ _ _ hq
    · exact specLine5 _ _ _ _ hq
    · exact specLine6 _ _ _ _ hq
    · exact specLine7 _ _ _ _ hq
  · cases h
end Go.Proofs.Tryz.Act
end
section
set_option linter.unusedVariables false
set_option linter.unusedSimpArgs false
namespace Go.Proofs.Tryz.Evt
open Go Go.Abs Go.Proofs Go.Mdl
theorem ev_fin {s : List UInt8} {e : Ev} (he : gEv s = e) :
    ((rightE e = false ∨ ¬ evLine e = s) → AV.agg [.int .i64 0, .int .i64 0, .int .i64 0, .int .i64 0, .str []] = AV.agg [.int .i64 (evS s).op, .int .i64 (evS s).cl, .int .i64 (evS s).og, .int .i64 (evS s).n, .str (evS s).t] ∧ false = evB s) ∧
    (rightE e = true → evLine e = s → AV.agg [.int .i64 e.op, .int .i64 e.cl, .int .i64 e.og, .int .i64 e.n, .str e.t] = AV.agg [.int .i64 (evS s).op, .int .i64 (evS s).cl, .int .i64 (evS s).og, .int .i64 (evS s).n, .str (evS s).t] ∧ true = evB s) := by
  refine ⟨fun h => ?_, fun h1 h2 => ?_⟩
  · have hb : evB s = false := by
      rw [evB, he]
      rcases h with h | h
      · rw [h]; rfl
      · rw [decide_eq_false h, Bool.and_false]
    rw [evS, if_neg (by rw [hb]; decide), hb]
    exact ⟨rfl, rfl⟩
  · have hb : evB s = true := by rw [evB, he, h1, decide_eq_true h2]; rfl
    rw [evS, if_pos hb, hb, he]
    exact ⟨rfl, rfl⟩
def T_specEvent : Tbl := fun g E args => (addT (addT (addT (addT (addT (addT nilT 49 Go.Proofs.Tryz.Lib.tb_specCut) 50 Go.Proofs.Tryz.Act.tb_specWord) 18 Go.Proofs.Tryz.Dig.tb_specDec) 27 Go.Proofs.Tryz.Scr.tb_specUnquote) 33 Go.Proofs.Tryz.Act.tb_specRight) 37 Go.Proofs.Tryz.Act.tb_line) g E args
theorem T_specEvent_ok : TblOK Tryz.prog T_specEvent := (addT_ok (addT_ok (addT_ok (addT_ok (addT_ok (addT_ok nilT_ok (by decide +kernel) Go.Proofs.Tryz.Lib.tb_specCut_ok) (by decide +kernel) Go.Proofs.Tryz.Act.tb_specWord_ok) (by decide +kernel) Go.Proofs.Tryz.Dig.tb_specDec_ok) (by decide +kernel) Go.Proofs.Tryz.Scr.tb_specUnquote_ok) (by decide +kernel) Go.Proofs.Tryz.Act.tb_specRight_ok) (by decide +kernel) Go.Proofs.Tryz.Act.tb_line_ok)
set_option maxRecDepth 100000 in
set_option maxHeartbeats 4000000 in
theorem specEvent (s : List UInt8) (hs : s.length ≤ 1000000) : SpecE Tryz.prog 20 [] [.str s] [] (.tuple [.agg [.int .i64 (evS s).op, .int .i64 (evS s).cl, .int .i64 (evS s).og, .int .i64 (evS s).n, .str (evS s).t], .bool (evB s)]) := by
  refine specF0 (C := T_specEvent) (wr := false) (D := fun _ => []) (U := fun _ => none) (res := [.agg [.int .i64 (evS s).op, .int .i64 (evS s).cl, .int .i64 (evS s).og, .int .i64 (evS s).n, .str (evS s).t], .bool (evB s)]) Tryz.Ty.mixed T_specEvent_ok Tryz.func20 (nA := 1) (by decide +kernel) rfl (fun _ => rfl) ?_
  simp only [Tryz.f20, bodyOf, rlOf]
  rw [W_V]
  simp (config := {maxSteps := 2000000}) only [T_specEvent, Go.Proofs.Tryz.Lib.tb_specCut, Go.Proofs.Tryz.Act.tb_specWord, Go.Proofs.Tryz.Dig.tb_specDec, Go.Proofs.Tryz.Scr.tb_specUnquote, Go.Proofs.Tryz.Act.tb_specRight, Go.Proofs.Tryz.Act.tb_line, go_sem, seval]
  (try simp (config := {maxSteps := 2000000}) only [gimp, impB, isT, go_sem, seval])
  have hmx : (1000000 : Nat) ≤ maxLen := by decide
  refine ⟨by omega, ?_⟩
  rw [show s.take (upTo 32 s) = gW s from rfl, show s.drop (upTo 32 s + 1) = gR s from rfl]
  refine VL_inv (X := Nat) (fun k => ⟨[(0, .str s), (2, .ptr 48 0 0 1), (3, .bool false), (4, .ptr 80 0 0 1), (5, .str (gW s)), (6, .str (gR s)), (8, .int .i64 ((k : Int) + 1))],
    [(48, .cells 5 false (.agg [.int .i64 0, .int .i64 0, .int .i64 0, .int .i64 0, .str []]) [.agg [.int .i64 0, .int .i64 0, .int .i64 0, .int .i64 0, .str []]]), (80, .cells 5 false (.agg [.int .i64 0, .int .i64 0, .int .i64 0, .int .i64 0, .str []]) [.agg [.int .i64 (opTo (gW s) k), .int .i64 0, .int .i64 0, .int .i64 0, .str []]])]⟩) (fun k => k ≤ 7) (fun k => 7 - k) 0 ?_ ?_ ?_
  · simp only [T_specEvent, Go.Proofs.Tryz.Lib.tb_specCut, Go.Proofs.Tryz.Act.tb_specWord, Go.Proofs.Tryz.Dig.tb_specDec, Go.Proofs.Tryz.Scr.tb_specUnquote, Go.Proofs.Tryz.Act.tb_specRight, Go.Proofs.Tryz.Act.tb_line, go_sem, seval]
    rfl
  · exact Nat.zero_le _
  rintro k hk
  simp (config := {maxSteps := 2000000}) only [T_specEvent, Go.Proofs.Tryz.Lib.tb_specCut, Go.Proofs.Tryz.Act.tb_specWord, Go.Proofs.Tryz.Dig.tb_specDec, Go.Proofs.Tryz.Scr.tb_specUnquote, Go.Proofs.Tryz.Act.tb_specRight, Go.Proofs.Tryz.Act.tb_line, go_sem, seval]
  (try simp (config := {maxSteps := 2000000}) only [gimp, impB, isT, go_sem, seval])
  have g0 : (gR s).length ≤ s.length := by unfold gR; rw [List.length_drop]; omega
  have step : (k : Int) + 1 ≤ 7 → opTo (gW s) (k + 1) = if wordS ((k : Int) + 1) = gW s then (k : Int) + 1 else opTo (gW s) k := fun _ => by simp [opTo]
  refine ⟨fun hlt => ⟨fun hw => ⟨by omega, k + 1, ⟨by omega, ?_⟩, by omega, by omega⟩, fun hw => ⟨by omega, k + 1, ⟨by omega, ?_⟩, by omega, by omega⟩⟩, fun hge => ?_⟩
  · rw [step hlt, if_pos hw]
  · rw [step hlt, if_neg hw]
  have hk7 : k = 7 := by omega
  subst hk7
  have ho : opTo (gW s) 7 = gOp s := opTo_7 (gW s)
  rw [ho]
  refine ⟨by omega, fun h6 => ⟨by decide, fun h2 => ?_, fun h2 => ?_⟩, fun h6 => ⟨by rw [List.length_take]; omega, fun h2 => ?_, fun h2 => ?_⟩⟩
  · omega
  · refine ev_fin ?_
    simp only [gEv, gCl, gOg, gT, gN, gNm, gLs, if_pos h6, if_neg h2]
    rfl
  · refine ⟨by rw [List.length_drop]; omega, ?_⟩
    refine ev_fin ?_
    simp only [gEv, gCl, gOg, gT, gN, gNm, gLs, if_neg h6, if_pos h2]
  · refine ev_fin ?_
    simp only [gEv, gCl, gOg, gT, gN, gNm, gLs, if_neg h6, if_neg h2]
def tb_specEvent : List Blk → List AV → Option (List Blk × AV × Prop)
  | [], [.str s] => some ([], .tuple [.agg [.int .i64 (evS s).op, .int .i64 (evS s).cl, .int .i64 (evS s).og, .int .i64 (evS s).n, .str (evS s).t], .bool (evB s)], (s.length ≤ 1000000))
  | _, _ => none
theorem tb_specEvent_ok : ∀ E args E' res p, tb_specEvent E args = some (E', res, p) → p → SpecE Tryz.prog 20 E args E' res := by
  intro E args E' res p h hp
  unfold tb_specEvent at h
  split at h
  · simp only [Option.some.injEq, Prod.mk.injEq] at h
    obtain ⟨rfl, rfl, rfl⟩ := h
    exact (specEvent _ hp)
  · cases h
end Go.Proofs.Tryz.Evt
end
section
set_option linter.unusedVariables false
set_option linter.unusedSimpArgs false
namespace Go.Proofs.Tryz.Prs
open Go Go.Abs Go.Proofs Go.Mdl
def T_specParse : Tbl := fun g E args => (addT (addT (addT (addT (addT (addT (addT nilT 14 Go.Proofs.Tryz.Lib.tb_specCutSuffix) 15 Go.Proofs.Tryz.Lib.tb_specSplit) 16 Go.Proofs.Tryz.Lib.tb_specCount1) 17 Go.Proofs.Tryz.Cfg.tb_specParse) 18 Go.Proofs.Tryz.Dig.tb_specDec) 19 Go.Proofs.Tryz.Dig.tb_specText) 20 Go.Proofs.Tryz.Evt.tb_specEvent) g E args
theorem T_specParse_ok : TblOK Tryz.prog T_specParse := (addT_ok (addT_ok (addT_ok (addT_ok (addT_ok (addT_ok (addT_ok nilT_ok (by decide +kernel) Go.Proofs.Tryz.Lib.tb_specCutSuffix_ok) (by decide +kernel) Go.Proofs.Tryz.Lib.tb_specSplit_ok) (by decide +kernel) Go.Proofs.Tryz.Lib.tb_specCount1_ok) (by decide +kernel) Go.Proofs.Tryz.Cfg.tb_specParse_ok) (by decide +kernel) Go.Proofs.Tryz.Dig.tb_specDec_ok) (by decide +kernel) Go.Proofs.Tryz.Dig.tb_specText_ok) (by decide +kernel) Go.Proofs.Tryz.Evt.tb_specEvent_ok)
set_option maxRecDepth 100000 in
set_option maxHeartbeats 4000000 in
theorem specParse (s : List UInt8) (hs : s.length ≤ 4000) : SpecE Tryz.prog 5 [] [.str s] [] (.tuple [.agg [.str (prNm s), .str (prAu s), .int .i64 (prI s 0), .int .i64 (prI s 1), .int .i64 (prI s 2), .int .i64 (prI s 3), .int .i64 (prI s 4), .int .i64 (prI s 5), .int .i64 (prI s 6), .int .i64 (prI s 7), .int .i64 (prI s 8), .int .i64 (prI s 9), .int .i64 (prI s 10), .int .i64 (prI s 11), .int .i64 (prI s 12), .int .i64 (prI s 13), .int .i64 (prI s 14), .int .i64 (prI s 15), .int .i64 (prNow s), .list 5 ((prEvs s).map enc_ev)], .int .i64 (prN s), .int .i64 (prE s)]) := by
  refine specF0 (C := T_specParse) (wr := false) (D := fun i => if i = 13 then [56] else []) (U := fun _ => none) (res := [.agg [.str (prNm s), .str (prAu s), .int .i64 (prI s 0), .int .i64 (prI s 1), .int .i64 (prI s 2), .int .i64 (prI s 3), .int .i64 (prI s 4), .int .i64 (prI s 5), .int .i64 (prI s 6), .int .i64 (prI s 7), .int .i64 (prI s 8), .int .i64 (prI s 9), .int .i64 (prI s 10), .int .i64 (prI s 11), .int .i64 (prI s 12), .int .i64 (prI s 13), .int .i64 (prI s 14), .int .i64 (prI s 15), .int .i64 (prNow s), .list 5 ((prEvs s).map enc_ev)], .int .i64 (prN s), .int .i64 (prE s)]) Tryz.Ty.mixed T_specParse_ok Tryz.func5 (nA := 1) (by decide +kernel) rfl (fun _ => rfl) ?_
  simp only [Tryz.f5, bodyOf, rlOf]
  rw [W_V]
  simp (config := {maxSteps := 2000000}) only [T_specParse, Go.Proofs.Tryz.Lib.tb_specCutSuffix, Go.Proofs.Tryz.Lib.tb_specSplit, Go.Proofs.Tryz.Lib.tb_specCount1, Go.Proofs.Tryz.Cfg.tb_specParse, Go.Proofs.Tryz.Dig.tb_specDec, Go.Proofs.Tryz.Dig.tb_specText, Go.Proofs.Tryz.Evt.tb_specEvent, go_sem, seval, scz, evz, scA]
  (try simp (config := {maxSteps := 2000000}) only [gimp, impB, isT, go_sem, seval])
  have hl := prL_len s
  have hmx : (4000 : Nat) ≤ maxLen := by decide
  have ht := trimSuffix_len s [10]
  have w0 := prW_len s 0
  have w1 := prW_len s 1
  simp only [show splitB 10 (Lib.trimSuffix s [10]) = prL s from rfl, show (prL s).getD 0 [] = prW s 0 from rfl, show (prL s).getD 1 [] = prW s 1 from rfl]
  have nr : numErr 10 1099511627776 (prW s 1) = 0 → 0 ≤ numVal 10 1099511627776 (prW s 1) ∧ numVal 10 1099511627776 (prW s 1) ≤ 1099511627776 := fun h => by have := numVal_rngS 10 1099511627776 (prW s 1) (.inl rfl); omega
  have hsh : ¬ (Lib.hasSuffix s [10] = false ∨ (prL s).length < 2) → prShort s = false := fun h => by rw [← Bool.not_eq_true, prShort_iff]; exact h
  refine ⟨by omega, by omega, fun h => ?_, fun h1 h2 => ⟨fun h => by omega, fun _ => ⟨by omega, by omega, fun h => ?_, fun h3 => ⟨by omega, ⟨fun h => by have := nr h; omega, fun h => by have := nr h; omega⟩, fun _ => by omega, fun h => ?_, fun h4 h5 => ⟨by omega, ?_⟩⟩⟩⟩⟩
  · have hs' : prShort s = true := (prShort_iff s).2 (by rcases h with h | h; exact .inl h; exact .inr (by omega))
    obtain ⟨a, b⟩ := pr_short hs'
    obtain ⟨e1, e2, e3, e4, e5, e6⟩ := pr_no a
    simp [e1, e2, e3, e4, e5, e6, b, hs']
  all_goals have hs' : prShort s = false := hsh (by rw [h1]; simp only [Bool.true_eq_false, false_or]; omega)
  · have hc : cfgHas cfgTo (prW s 0) = false := by rw [← Bool.not_eq_true, ← cfgRE_iff]; exact h
    obtain ⟨a, b⟩ := pr_cfg hs' hc
    obtain ⟨e1, e2, e3, e4, e5, e6⟩ := pr_no a
    simp [e1, e2, e3, e4, e5, e6, b, hs']
  all_goals have hc : cfgHas cfgTo (prW s 0) = true := (cfgRE_iff _).1 h3
  · have hb : prNowB s = false := by
      rw [← Bool.not_eq_true, prNowB_iff]
      rintro ⟨x, y⟩
      rcases h with h | h
      · exact h x
      · exact h y
    obtain ⟨a, b⟩ := pr_now hs' hc hb
    obtain ⟨e1, e2, e3, e4, e5, e6⟩ := pr_no a
    simp [e1, e2, e3, e4, e5, e6, b, hs']
  have hb : prNowB s = true := (prNowB_iff s).2 ⟨h4, h5⟩
  have hr : (prRows s).length = (prL s).length - 2 := List.length_drop ..
  have row := fun k => @pr_row s hs' hc hb k
  have yes := pr_yes hs' hc hb
  rw [show numVal 10 1099511627776 (prW s 1) = prNowN s from rfl] at *
  have rl := row_len s
  simp only [show List.drop 2 (prL s) = prRows s from rfl] at *
  have bad : ∀ k : Nat, k < (prRows s).length → ((prRows s).take k).all evB = true → evB ((prRows s).getD k []) = false → ([] = prNm s ∧ [] = prAu s ∧ 0 = prI s 0 ∧ 0 = prI s 1 ∧ 0 = prI s 2 ∧ 0 = prI s 3 ∧ 0 = prI s 4 ∧ 0 = prI s 5 ∧ 0 = prI s 6 ∧ 0 = prI s 7 ∧ 0 = prI s 8 ∧ 0 = prI s 9 ∧ 0 = prI s 10 ∧ 0 = prI s 11 ∧ 0 = prI s 12 ∧ 0 = prI s 13 ∧ 0 = prI s 14 ∧ 0 = prI s 15 ∧ 0 = prNow s ∧ List.map enc_ev (prEvs s) = []) ∧ ((k : Int) + 3 = prN s) ∧ 3 = prE s := fun k h1 h2 h3 => by
    obtain ⟨a, b⟩ := row k h1 h2 h3
    obtain ⟨e1, e2, e3, e4, e5, e6⟩ := pr_no a
    simp [e1, e2, e3, e4, e5, e6, b, hs']
  refine VL_N 1 ?_
  rw [VN_succ]
  simp (config := {maxSteps := 2000000}) only [T_specParse, Go.Proofs.Tryz.Lib.tb_specCutSuffix, Go.Proofs.Tryz.Lib.tb_specSplit, Go.Proofs.Tryz.Lib.tb_specCount1, Go.Proofs.Tryz.Cfg.tb_specParse, Go.Proofs.Tryz.Dig.tb_specDec, Go.Proofs.Tryz.Dig.tb_specText, Go.Proofs.Tryz.Evt.tb_specEvent, go_sem, seval, scz, evz, scA]
  (try simp (config := {maxSteps := 2000000}) only [gimp, impB, isT, go_sem, seval])
  refine ⟨fun hlt => ⟨hlt, by have := rl 0; omega, fun hf => bad 0 (by omega) (by simp) hf, fun hf => ?_⟩, fun hge => ?_⟩
  · refine VN_inv (X := Nat) (fun k => ⟨[(2, .ptr 48 0 0 1), (7, enc_strs (prL s)), (8, .ptr 144 0 0 1), (69, enc_strs (prRows s)), (70, .int .i64 (prRows s).length), (71, .int .i64 k)], [(48, .cells 20 false scz [scz]), (144, .cells 20 false scz [scA (prW s 0) (prNowN s) (.ref 1456 0 k k)]), (1456, .cells 5 false evz (((prRows s).take k).map fun r => enc_ev (evS r)))]⟩) (fun k => 1 ≤ k ∧ k ≤ (prRows s).length ∧ ((prRows s).take k).all evB = true) (fun k => (prRows s).length - k) 1 ?_ ?_ ?_
    · simp only [T_specParse, Go.Proofs.Tryz.Lib.tb_specCutSuffix, Go.Proofs.Tryz.Lib.tb_specSplit, Go.Proofs.Tryz.Lib.tb_specCount1, Go.Proofs.Tryz.Cfg.tb_specParse, Go.Proofs.Tryz.Dig.tb_specDec, Go.Proofs.Tryz.Dig.tb_specText, Go.Proofs.Tryz.Evt.tb_specEvent, go_sem, seval, scz, evz, scA]
      have := rows_snoc (prRows s) (k := 0) (by omega)
      exact this.symm
    · exact ⟨Nat.le_refl _, by omega, rows_all _ (by omega) (by simp) hf⟩
    rintro k ⟨k1, k2, k3⟩
    simp (config := {maxSteps := 2000000}) only [T_specParse, Go.Proofs.Tryz.Lib.tb_specCutSuffix, Go.Proofs.Tryz.Lib.tb_specSplit, Go.Proofs.Tryz.Lib.tb_specCount1, Go.Proofs.Tryz.Cfg.tb_specParse, Go.Proofs.Tryz.Dig.tb_specDec, Go.Proofs.Tryz.Dig.tb_specText, Go.Proofs.Tryz.Evt.tb_specEvent, go_sem, seval, scz, evz, scA]
    (try simp (config := {maxSteps := 2000000}) only [gimp, impB, isT, go_sem, seval])
    have ln : (List.take k (prRows s)).length = k := by rw [List.length_take]; omega
    refine ⟨fun hlt => ⟨by omega, by have := rl k; omega, fun hf => ⟨by omega, bad k (by omega) k3 hf⟩, fun hf => ⟨by omega, by omega, k + 1, ?_, ⟨by omega, by omega, rows_all _ (by omega) k3 hf⟩, by omega⟩⟩, fun hge => ?_⟩
    · exact ⟨by omega, rfl, (rows_snoc (prRows s) (by omega)).symm⟩
    have ek : k = (prRows s).length := by omega
    rw [ek, List.take_length] at k3
    obtain ⟨y0, y1, y2, y3, y4, y5, y6, y7⟩ := yes k3
    rw [ek, List.take_length, List.take_length]
    simp only [y1, y2, y3, y4, y5, y6, y7, List.map_map, and_true, true_and]
    rfl
  · have e0 : (prRows s).length = 0 := by omega
    have en := List.eq_nil_of_length_eq_zero e0
    obtain ⟨y0, y1, y2, y3, y4, y5, y6, y7⟩ := yes (by rw [en]; rfl)
    simp only [y1, y2, y3, y4, y5, y6, y7, en, List.map_nil, and_self, and_true]
def tb_specParse : List Blk → List AV → Option (List Blk × AV × Prop)
  | [], [.str s] => some ([], .tuple [.agg [.str (prNm s), .str (prAu s), .int .i64 (prI s 0), .int .i64 (prI s 1), .int .i64 (prI s 2), .int .i64 (prI s 3), .int .i64 (prI s 4), .int .i64 (prI s 5), .int .i64 (prI s 6), .int .i64 (prI s 7), .int .i64 (prI s 8), .int .i64 (prI s 9), .int .i64 (prI s 10), .int .i64 (prI s 11), .int .i64 (prI s 12), .int .i64 (prI s 13), .int .i64 (prI s 14), .int .i64 (prI s 15), .int .i64 (prNow s), .list 5 ((prEvs s).map enc_ev)], .int .i64 (prN s), .int .i64 (prE s)], (s.length ≤ 4000))
  | _, _ => none
theorem tb_specParse_ok : ∀ E args E' res p, tb_specParse E args = some (E', res, p) → p → SpecE Tryz.prog 5 E args E' res := by
  intro E args E' res p h hp
  unfold tb_specParse at h
  split at h
  · simp only [Option.some.injEq, Prod.mk.injEq] at h
    obtain ⟨rfl, rfl, rfl⟩ := h
    exact (specParse _ hp)
  · cases h
end Go.Proofs.Tryz.Prs
end
section
set_option linter.unusedVariables false
set_option linter.unusedSimpArgs false
namespace Go.Proofs.Tryz.ScpL
open Go Go.Abs Go.Proofs Go.Mdl
def T_specLives : Tbl := fun g E args => (addT (addT (addT (addT nilT 27 Go.Proofs.Tryz.Scr.tb_specUnquote) 29 Go.Proofs.Tryz.Cfg.tb_specUsual) 28 Go.Proofs.Tryz.Cfg.tb_specPrint) 5 Go.Proofs.Tryz.Prs.tb_specParse) g E args
theorem T_specLives_ok : TblOK Tryz.prog T_specLives := (addT_ok (addT_ok (addT_ok (addT_ok nilT_ok (by decide +kernel) Go.Proofs.Tryz.Scr.tb_specUnquote_ok) (by decide +kernel) Go.Proofs.Tryz.Cfg.tb_specUsual_ok) (by decide +kernel) Go.Proofs.Tryz.Cfg.tb_specPrint_ok) (by decide +kernel) Go.Proofs.Tryz.Prs.tb_specParse_ok)
set_option maxRecDepth 100000 in
set_option maxHeartbeats 4000000 in
theorem specLives : SpecE Tryz.prog 8 [] [] [] (.bool true) := by
  refine specF0 (C := T_specLives) (wr := false) (D := fun _ => []) (U := fun _ => none) (res := [.bool true]) Tryz.Ty.mixed T_specLives_ok Tryz.func8 (nA := 0) (by decide +kernel) rfl (fun _ => rfl) ?_
  simp only [Tryz.f8, bodyOf, rlOf]
  rw [W_V]
  simp (config := {maxSteps := 2000000}) only [T_specLives, Go.Proofs.Tryz.Scr.tb_specUnquote, Go.Proofs.Tryz.Cfg.tb_specUsual, Go.Proofs.Tryz.Cfg.tb_specPrint, Go.Proofs.Tryz.Prs.tb_specParse, go_sem, seval]
  (try simp (config := {maxSteps := 2000000}) only [gimp, impB, isT, go_sem, seval])
  decide +kernel
def tb_specLives : List Blk → List AV → Option (List Blk × AV × Prop)
  | [], [] => some ([], .bool true, True)
  | _, _ => none
theorem tb_specLives_ok : ∀ E args E' res p, tb_specLives E args = some (E', res, p) → p → SpecE Tryz.prog 8 E args E' res := by
  intro E args E' res p h hp
  unfold tb_specLives at h
  split at h
  · simp only [Option.some.injEq, Prod.mk.injEq] at h
    obtain ⟨rfl, rfl, rfl⟩ := h
    exact specLives
  · cases h
end Go.Proofs.Tryz.ScpL
end
section
set_option linter.unusedVariables false
set_option linter.unusedSimpArgs false
namespace Go.Proofs.Tryz.ScpS
open Go Go.Abs Go.Proofs Go.Mdl
def T_specSameS : Tbl := fun g E args => (addT nilT 26 Go.Proofs.Tryz.Spt.tb_specSame) g E args
theorem T_specSameS_ok : TblOK Tryz.prog T_specSameS := (addT_ok nilT_ok (by decide +kernel) Go.Proofs.Tryz.Spt.tb_specSame_ok)
set_option maxRecDepth 100000 in
set_option maxHeartbeats 4000000 in
theorem specSameS (nm au : List UInt8) (n0 n1 n2 n3 n4 n5 n6 n7 n8 n9 n10 n11 n12 n13 n14 n15 : Int) (now : Int) (l : List Ev) (hl : l.length ≤ 1000000) : SpecE Tryz.prog 7 [] [.agg [.str nm, .str au, .int .i64 n0, .int .i64 n1, .int .i64 n2, .int .i64 n3, .int .i64 n4, .int .i64 n5, .int .i64 n6, .int .i64 n7, .int .i64 n8, .int .i64 n9, .int .i64 n10, .int .i64 n11, .int .i64 n12, .int .i64 n13, .int .i64 n14, .int .i64 n15, .int .i64 now, .list 5 (l.map enc_ev)], .agg [.str nm, .str au, .int .i64 n0, .int .i64 n1, .int .i64 n2, .int .i64 n3, .int .i64 n4, .int .i64 n5, .int .i64 n6, .int .i64 n7, .int .i64 n8, .int .i64 n9, .int .i64 n10, .int .i64 n11, .int .i64 n12, .int .i64 n13, .int .i64 n14, .int .i64 n15, .int .i64 now, .list 5 (l.map enc_ev)]] [] (.bool true) := by
  refine specF0 (C := T_specSameS) (wr := false) (D := fun _ => []) (U := fun _ => none) (res := [.bool true]) Tryz.Ty.mixed T_specSameS_ok Tryz.func7 (nA := 2) (by decide +kernel) rfl (fun _ => rfl) ?_
  simp only [Tryz.f7, bodyOf, rlOf]
  rw [W_V]
  simp (config := {maxSteps := 2000000}) only [T_specSameS, Go.Proofs.Tryz.Spt.tb_specSame, go_sem, seval]
  (try simp (config := {maxSteps := 2000000}) only [gimp, impB, isT, go_sem, seval])
  exact hl
def tb_same : List Blk → List AV → Option (List Blk × AV × Prop)
  | [], [.agg [.str nm, .str au, .int .i64 n0, .int .i64 n1, .int .i64 n2, .int .i64 n3, .int .i64 n4, .int .i64 n5, .int .i64 n6, .int .i64 n7, .int .i64 n8, .int .i64 n9, .int .i64 n10, .int .i64 n11, .int .i64 n12, .int .i64 n13, .int .i64 n14, .int .i64 n15, .int .i64 now, .list 5 c], y] => some ([], .bool true, (c.map dec_ev).map enc_ev = c ∧ y = .agg [.str nm, .str au, .int .i64 n0, .int .i64 n1, .int .i64 n2, .int .i64 n3, .int .i64 n4, .int .i64 n5, .int .i64 n6, .int .i64 n7, .int .i64 n8, .int .i64 n9, .int .i64 n10, .int .i64 n11, .int .i64 n12, .int .i64 n13, .int .i64 n14, .int .i64 n15, .int .i64 now, .list 5 c] ∧ c.length ≤ 1000000)
  | _, _ => none
theorem tb_same_ok : ∀ E args E' res q, tb_same E args = some (E', res, q) → q → SpecE Tryz.prog 7 E args E' res := by
  intro E args E' res q h hq
  unfold tb_same at h
  split at h
  · rename_i nm au n0 n1 n2 n3 n4 n5 n6 n7 n8 n9 n10 n11 n12 n13 n14 n15 now c y
    simp only [Option.some.injEq, Prod.mk.injEq] at h
    obtain ⟨rfl, rfl, rfl⟩ := h
    obtain ⟨h1, rfl, h4⟩ := hq
    have := specSameS nm au n0 n1 n2 n3 n4 n5 n6 n7 n8 n9 n10 n11 n12 n13 n14 n15 now (c.map dec_ev) (by rw [List.length_map]; exact h4)
    rw [h1] at this
    exact this
  · cases h
def T_specLawParses : Tbl := fun g E args => (addT (addT (addT (addT nilT 5 Go.Proofs.Tryz.Prs.tb_specParse) 6 Go.Proofs.Tryz.PrsR.tb_specParseR) 7 Go.Proofs.Tryz.ScpS.tb_same) 8 Go.Proofs.Tryz.ScpL.tb_specLives) g E args
theorem T_specLawParses_ok : TblOK Tryz.prog T_specLawParses := (addT_ok (addT_ok (addT_ok (addT_ok nilT_ok (by decide +kernel) Go.Proofs.Tryz.Prs.tb_specParse_ok) (by decide +kernel) Go.Proofs.Tryz.PrsR.tb_specParseR_ok) (by decide +kernel) Go.Proofs.Tryz.ScpS.tb_same_ok) (by decide +kernel) Go.Proofs.Tryz.ScpL.tb_specLives_ok)
set_option maxRecDepth 100000 in
set_option maxHeartbeats 4000000 in
theorem specLawParses (s : List UInt8) (hs : s.length ≤ maxLen) : SpecE Tryz.prog 3 [] [.str s] [] (.bool true) := by
  refine specF0 (C := T_specLawParses) (wr := false) (D := fun _ => []) (U := fun _ => none) (res := [.bool true]) Tryz.Ty.mixed T_specLawParses_ok Tryz.func3 (nA := 1) (by decide +kernel) rfl (fun _ => rfl) ?_
  simp only [Tryz.f3, bodyOf, rlOf]
  rw [W_V]
  simp (config := {maxSteps := 2000000}) only [T_specLawParses, Go.Proofs.Tryz.Prs.tb_specParse, Go.Proofs.Tryz.PrsR.tb_specParseR, Go.Proofs.Tryz.ScpS.tb_same, Go.Proofs.Tryz.ScpL.tb_specLives, go_sem, seval]
  (try simp (config := {maxSteps := 2000000}) only [gimp, impB, isT, go_sem, seval])
  have h : (s.take 4000).length ≤ 4000 := by rw [List.length_take]; omega
  have e : (prEvs (s.take 4000)).length ≤ (prL (s.take 4000)).length := by
    unfold prEvs
    split
    · rw [List.length_map, prRows, List.length_drop]; omega
    · exact Nat.zero_le _
  have p := prL_len (s.take 4000)
  exact ⟨h, h, by omega⟩
end Go.Proofs.Tryz.ScpS
end
