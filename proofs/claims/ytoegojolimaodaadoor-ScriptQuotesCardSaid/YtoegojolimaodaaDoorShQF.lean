import Derived.Test.YtoegojolimaodaaDoorShQE
import Derived.Test.YtoegojolimaodaaDoorRows
import Derived.JoinedOf
import Derived.KernelRfl
import Derived.Shelf.Strings.Builder1
import Derived.Shelf.Strings.Builder2
import Derived.Shelf.Strings.OnBuilder
import Derived.Shelf.Small.Strs
import Derived.Shelf.Small.Wraps
import Derived.Shelf.Strings.BuilderF
import Derived.Shelf.Strings.BuilderK
import Derived.Shelf.Strings.Builder2Cap
import Derived.Shelf.Strings.Search1
import Derived.Shelf.Strings.Search2
import Derived.Shelf.Strings.Search3
import Derived.Shelf.Strings.Cut
import Derived.Shelf.Strings.Count
import Derived.Shelf.LaysM
import Derived.Shelf.Strings.Shaped
import Derived.Shelf.Strings.LastIndex
import Derived.Shelf.Strings.Prefix
import Derived.Shelf.Unicode.DecodeSlow
import Derived.Shelf.Strings.BuilderCap
import Derived.Ground.PaProg
import Derived.Shelf.Path.Small
import Derived.Test.YtoegojolimaodaaDoorProg
section
set_option linter.unusedVariables false
set_option maxRecDepth 100000
namespace Go.Proofs.YtoegojolimaodaaDoor.Facts
open Go Go.Proofs
theorem andT {a b : Bool} (ha : a = true) (hb : b = true) : (a && b) = true := by rw [ha, hb]; rfl
theorem init : Tryd.pinned.checked.prog.initOrder.toList = [Char.ofNat 104, Char.ofNat 97, Char.ofNat 114, Char.ofNat 110, Char.ofNat 101, Char.ofNat 115, Char.ofNat 115, Char.ofNat 32, Char.ofNat 55, Char.ofNat 98, Char.ofNat 100, Char.ofNat 56, Char.ofNat 57, Char.ofNat 48, Char.ofNat 55, Char.ofNat 55, Char.ofNat 97, Char.ofNat 53, Char.ofNat 56, Char.ofNat 50, Char.ofNat 101, Char.ofNat 48, Char.ofNat 56, Char.ofNat 50, Char.ofNat 57, Char.ofNat 48, Char.ofNat 101, Char.ofNat 100, Char.ofNat 55, Char.ofNat 99, Char.ofNat 55, Char.ofNat 99, Char.ofNat 98, Char.ofNat 101, Char.ofNat 53, Char.ofNat 53, Char.ofNat 101, Char.ofNat 49, Char.ofNat 101, Char.ofNat 56, Char.ofNat 51, Char.ofNat 49, Char.ofNat 97, Char.ofNat 49, Char.ofNat 50, Char.ofNat 99, Char.ofNat 52, Char.ofNat 101, Char.ofNat 49, Char.ofNat 49, Char.ofNat 50, Char.ofNat 54, Char.ofNat 99, Char.ofNat 55, Char.ofNat 53, Char.ofNat 48, Char.ofNat 54, Char.ofNat 56, Char.ofNat 100, Char.ofNat 48, Char.ofNat 55, Char.ofNat 100, Char.ofNat 53, Char.ofNat 98, Char.ofNat 49, Char.ofNat 57, Char.ofNat 98, Char.ofNat 51, Char.ofNat 55, Char.ofNat 102, Char.ofNat 99, Char.ofNat 50, Char.ofNat 32, Char.ofNat 99, Char.ofNat 117, Char.ofNat 116, Char.ofNat 32, Char.ofNat 97, Char.ofNat 116, Char.ofNat 32, Char.ofNat 97, Char.ofNat 98, Char.ofNat 117, Char.ofNat 116, Char.ofNat 109, Char.ofNat 101, Char.ofNat 110, Char.ofNat 116, Char.ofNat 47, Char.ofNat 97, Char.ofNat 98, Char.ofNat 117, Char.ofNat 116, Char.ofNat 109, Char.ofNat 101, Char.ofNat 110, Char.ofNat 116, Char.ofNat 108, Char.ofNat 97, Char.ofNat 119, Char.ofNat 49, Char.ofNat 56, Char.ofNat 46, Char.ofNat 76, Char.ofNat 101, Char.ofNat 110, Char.ofNat 103, Char.ofNat 116, Char.ofNat 104, Char.ofNat 79, Char.ofNat 102, Char.ofNat 32, Char.ofNat 97, Char.ofNat 98, Char.ofNat 117, Char.ofNat 116, Char.ofNat 109, Char.ofNat 101, Char.ofNat 110, Char.ofNat 116, Char.ofNat 47, Char.ofNat 97, Char.ofNat 98, Char.ofNat 117, Char.ofNat 116, Char.ofNat 109, Char.ofNat 101, Char.ofNat 110, Char.ofNat 116, Char.ofNat 108, Char.ofNat 97, Char.ofNat 119, Char.ofNat 49, Char.ofNat 56, Char.ofNat 46, Char.ofNat 76, Char.ofNat 101, Char.ofNat 110, Char.ofNat 103, Char.ofNat 116, Char.ofNat 104, Char.ofNat 83, Char.ofNat 101, Char.ofNat 116, Char.ofNat 32, Char.ofNat 97, Char.ofNat 98, Char.ofNat 117, Char.ofNat 116, Char.ofNat 109, Char.ofNat 101, Char.ofNat 110, Char.ofNat 116, Char.ofNat 47, Char.ofNat 97, Char.ofNat 98, Char.ofNat 117, Char.ofNat 116, Char.ofNat 109, Char.ofNat 101, Char.ofNat 110, Char.ofNat 116, Char.ofNat 108, Char.ofNat 97, Char.ofNat 119, Char.ofNat 52, Char.ofNat 53, Char.ofNat 46, Char.ofNat 83, Char.ofNat 99, Char.ofNat 114, Char.ofNat 105, Char.ofNat 112, Char.ofNat 116, Char.ofNat 81, Char.ofNat 117, Char.ofNat 111, Char.ofNat 116, Char.ofNat 101, Char.ofNat 115] := by
  have e : Tryd.pinned.checked.prog.initOrder = String.ofList [Char.ofNat 104, Char.ofNat 97, Char.ofNat 114, Char.ofNat 110, Char.ofNat 101, Char.ofNat 115, Char.ofNat 115, Char.ofNat 32, Char.ofNat 55, Char.ofNat 98, Char.ofNat 100, Char.ofNat 56, Char.ofNat 57, Char.ofNat 48, Char.ofNat 55, Char.ofNat 55, Char.ofNat 97, Char.ofNat 53, Char.ofNat 56, Char.ofNat 50, Char.ofNat 101, Char.ofNat 48, Char.ofNat 56, Char.ofNat 50, Char.ofNat 57, Char.ofNat 48, Char.ofNat 101, Char.ofNat 100, Char.ofNat 55, Char.ofNat 99, Char.ofNat 55, Char.ofNat 99, Char.ofNat 98, Char.ofNat 101, Char.ofNat 53, Char.ofNat 53, Char.ofNat 101, Char.ofNat 49, Char.ofNat 101, Char.ofNat 56, Char.ofNat 51, Char.ofNat 49, Char.ofNat 97, Char.ofNat 49, Char.ofNat 50, Char.ofNat 99, Char.ofNat 52, Char.ofNat 101, Char.ofNat 49, Char.ofNat 49, Char.ofNat 50, Char.ofNat 54, Char.ofNat 99, Char.ofNat 55, Char.ofNat 53, Char.ofNat 48, Char.ofNat 54, Char.ofNat 56, Char.ofNat 100, Char.ofNat 48, Char.ofNat 55, Char.ofNat 100, Char.ofNat 53, Char.ofNat 98, Char.ofNat 49, Char.ofNat 57, Char.ofNat 98, Char.ofNat 51, Char.ofNat 55, Char.ofNat 102, Char.ofNat 99, Char.ofNat 50, Char.ofNat 32, Char.ofNat 99, Char.ofNat 117, Char.ofNat 116, Char.ofNat 32, Char.ofNat 97, Char.ofNat 116, Char.ofNat 32, Char.ofNat 97, Char.ofNat 98, Char.ofNat 117, Char.ofNat 116, Char.ofNat 109, Char.ofNat 101, Char.ofNat 110, Char.ofNat 116, Char.ofNat 47, Char.ofNat 97, Char.ofNat 98, Char.ofNat 117, Char.ofNat 116, Char.ofNat 109, Char.ofNat 101, Char.ofNat 110, Char.ofNat 116, Char.ofNat 108, Char.ofNat 97, Char.ofNat 119, Char.ofNat 49, Char.ofNat 56, Char.ofNat 46, Char.ofNat 76, Char.ofNat 101, Char.ofNat 110, Char.ofNat 103, Char.ofNat 116, Char.ofNat 104, Char.ofNat 79, Char.ofNat 102, Char.ofNat 32, Char.ofNat 97, Char.ofNat 98, Char.ofNat 117, Char.ofNat 116, Char.ofNat 109, Char.ofNat 101, Char.ofNat 110, Char.ofNat 116, Char.ofNat 47, Char.ofNat 97, Char.ofNat 98, Char.ofNat 117, Char.ofNat 116, Char.ofNat 109, Char.ofNat 101, Char.ofNat 110, Char.ofNat 116, Char.ofNat 108, Char.ofNat 97, Char.ofNat 119, Char.ofNat 49, Char.ofNat 56, Char.ofNat 46, Char.ofNat 76, Char.ofNat 101, Char.ofNat 110, Char.ofNat 103, Char.ofNat 116, Char.ofNat 104, Char.ofNat 83, Char.ofNat 101, Char.ofNat 116, Char.ofNat 32, Char.ofNat 97, Char.ofNat 98, Char.ofNat 117, Char.ofNat 116, Char.ofNat 109, Char.ofNat 101, Char.ofNat 110, Char.ofNat 116, Char.ofNat 47, Char.ofNat 97, Char.ofNat 98, Char.ofNat 117, Char.ofNat 116, Char.ofNat 109, Char.ofNat 101, Char.ofNat 110, Char.ofNat 116, Char.ofNat 108, Char.ofNat 97, Char.ofNat 119, Char.ofNat 52, Char.ofNat 53, Char.ofNat 46, Char.ofNat 83, Char.ofNat 99, Char.ofNat 114, Char.ofNat 105, Char.ofNat 112, Char.ofNat 116, Char.ofNat 81, Char.ofNat 117, Char.ofNat 111, Char.ofNat 116, Char.ofNat 101, Char.ofNat 115] := by kernel_rfl
  rw [e, String.toList_ofList]
theorem strip (rest : List (List Char)) : stripLifts liftWords ("cut".toList :: rest) = ([], "cut".toList :: rest) := by kernel_rfl
theorem mayOf {P : Program} {rest : List (List Char)} (h : behindMainWord (wordsSigns P.initOrder.toList) = "cut".toList :: rest) (a : P.laysLater = false) (b : P.bearsReflect = false) (d : P.doorFits [] = true) : P.mayEnter = true := by
  have e1 : ("cut".toList == "gc".toList) = false := by kernel_rfl
  have e2 : ("cut".toList == "spec".toList) = false := by kernel_rfl
  have e3 : ("cut".toList == "carried".toList) = false := by kernel_rfl
  have e4 : (some "cut".toList == some "cut".toList) = true := by kernel_rfl
  unfold Program.mayEnter
  rw [h]
  show ((("cut".toList == "gc".toList) || ("cut".toList == "spec".toList)) && _ || _ || _) = true
  rw [e1, e2, e3, strip]
  simp only [a, b, d, List.head?_cons, e4, Bool.or_false, Bool.false_and, Bool.not_false, Bool.or_true, Bool.and_true, List.contains_nil]
theorem headOf {P : Program} {rest : List (List Char)} (h : behindMainWord (wordsSigns P.initOrder.toList) = "cut".toList :: rest) : P.headLifts = [] := by
  unfold Program.headLifts
  rw [h, strip]
  exact ite_self _
theorem finalOf {P : Program} {rest : List (List Char)} (h : behindMainWord (wordsSigns P.initOrder.toList) = "cut".toList :: rest) : P.liftsFinal = false := by
  have e3 : (some "cut".toList == some "carried".toList) = false := by kernel_rfl
  unfold Program.liftsFinal
  rw [headOf h, h]
  simp only [List.head?_cons, e3, Bool.false_and, Bool.false_or, List.contains_nil]
theorem makeOf {P : Program} {rest : List (List Char)} (h : behindMainWord (wordsSigns P.initOrder.toList) = "cut".toList :: rest) : P.make = some .cut := by
  have e1 : ("cut".toList == "gc".toList) = false := by kernel_rfl
  have e2 : ("cut".toList == "spec".toList) = false := by kernel_rfl
  have e4 : ("cut".toList == "cut".toList) = true := by kernel_rfl
  unfold Program.make
  rw [h]
  simp only [e1, e2, e4, Bool.or_false, Bool.true_or, if_true, Bool.false_eq_true, if_false]
theorem words : ∃ rest, behindMainWord (wordsSigns Tryd.pinned.checked.prog.initOrder.toList) = "cut".toList :: rest := by
  rw [init]
  exact ⟨(behindMainWord (wordsSigns [Char.ofNat 104, Char.ofNat 97, Char.ofNat 114, Char.ofNat 110, Char.ofNat 101, Char.ofNat 115, Char.ofNat 115, Char.ofNat 32, Char.ofNat 55, Char.ofNat 98, Char.ofNat 100, Char.ofNat 56, Char.ofNat 57, Char.ofNat 48, Char.ofNat 55, Char.ofNat 55, Char.ofNat 97, Char.ofNat 53, Char.ofNat 56, Char.ofNat 50, Char.ofNat 101, Char.ofNat 48, Char.ofNat 56, Char.ofNat 50, Char.ofNat 57, Char.ofNat 48, Char.ofNat 101, Char.ofNat 100, Char.ofNat 55, Char.ofNat 99, Char.ofNat 55, Char.ofNat 99, Char.ofNat 98, Char.ofNat 101, Char.ofNat 53, Char.ofNat 53, Char.ofNat 101, Char.ofNat 49, Char.ofNat 101, Char.ofNat 56, Char.ofNat 51, Char.ofNat 49, Char.ofNat 97, Char.ofNat 49, Char.ofNat 50, Char.ofNat 99, Char.ofNat 52, Char.ofNat 101, Char.ofNat 49, Char.ofNat 49, Char.ofNat 50, Char.ofNat 54, Char.ofNat 99, Char.ofNat 55, Char.ofNat 53, Char.ofNat 48, Char.ofNat 54, Char.ofNat 56, Char.ofNat 100, Char.ofNat 48, Char.ofNat 55, Char.ofNat 100, Char.ofNat 53, Char.ofNat 98, Char.ofNat 49, Char.ofNat 57, Char.ofNat 98, Char.ofNat 51, Char.ofNat 55, Char.ofNat 102, Char.ofNat 99, Char.ofNat 50, Char.ofNat 32, Char.ofNat 99, Char.ofNat 117, Char.ofNat 116, Char.ofNat 32, Char.ofNat 97, Char.ofNat 116, Char.ofNat 32, Char.ofNat 97, Char.ofNat 98, Char.ofNat 117, Char.ofNat 116, Char.ofNat 109, Char.ofNat 101, Char.ofNat 110, Char.ofNat 116, Char.ofNat 47, Char.ofNat 97, Char.ofNat 98, Char.ofNat 117, Char.ofNat 116, Char.ofNat 109, Char.ofNat 101, Char.ofNat 110, Char.ofNat 116, Char.ofNat 108, Char.ofNat 97, Char.ofNat 119, Char.ofNat 49, Char.ofNat 56, Char.ofNat 46, Char.ofNat 76, Char.ofNat 101, Char.ofNat 110, Char.ofNat 103, Char.ofNat 116, Char.ofNat 104, Char.ofNat 79, Char.ofNat 102, Char.ofNat 32, Char.ofNat 97, Char.ofNat 98, Char.ofNat 117, Char.ofNat 116, Char.ofNat 109, Char.ofNat 101, Char.ofNat 110, Char.ofNat 116, Char.ofNat 47, Char.ofNat 97, Char.ofNat 98, Char.ofNat 117, Char.ofNat 116, Char.ofNat 109, Char.ofNat 101, Char.ofNat 110, Char.ofNat 116, Char.ofNat 108, Char.ofNat 97, Char.ofNat 119, Char.ofNat 49, Char.ofNat 56, Char.ofNat 46, Char.ofNat 76, Char.ofNat 101, Char.ofNat 110, Char.ofNat 103, Char.ofNat 116, Char.ofNat 104, Char.ofNat 83, Char.ofNat 101, Char.ofNat 116, Char.ofNat 32, Char.ofNat 97, Char.ofNat 98, Char.ofNat 117, Char.ofNat 116, Char.ofNat 109, Char.ofNat 101, Char.ofNat 110, Char.ofNat 116, Char.ofNat 47, Char.ofNat 97, Char.ofNat 98, Char.ofNat 117, Char.ofNat 116, Char.ofNat 109, Char.ofNat 101, Char.ofNat 110, Char.ofNat 116, Char.ofNat 108, Char.ofNat 97, Char.ofNat 119, Char.ofNat 52, Char.ofNat 53, Char.ofNat 46, Char.ofNat 83, Char.ofNat 99, Char.ofNat 114, Char.ofNat 105, Char.ofNat 112, Char.ofNat 116, Char.ofNat 81, Char.ofNat 117, Char.ofNat 111, Char.ofNat 116, Char.ofNat 101, Char.ofNat 115])).tail, by kernel_rfl⟩
theorem lays : Tryd.pinned.checked.prog.laysLater = false := by kernel_rfl
theorem bears : Tryd.pinned.checked.prog.bearsReflect = false := by kernel_rfl
theorem door : Tryd.pinned.checked.prog.doorFits [] = true := by kernel_rfl
theorem mayEnter : Tryd.pinned.checked.prog.mayEnter = true := by obtain ⟨r, h⟩ := words; exact mayOf h lays bears door
theorem liftsFinal : Tryd.pinned.checked.prog.liftsFinal = false := by obtain ⟨r, h⟩ := words; exact finalOf h
theorem make : Tryd.pinned.checked.prog.make = some .cut := by obtain ⟨r, h⟩ := words; exact makeOf h
theorem laidOut : laidOutB Tryd.pinned.checked.prog = true := by kernel_rfl
theorem mapsR : mapsRowed Tryd.pinned.checked.prog = true := by kernel_rfl
theorem stops : (Tryd.pinned.checked.prog.stops == []) = true := by kernel_rfl
theorem stopKnobs : (Tryd.pinned.checked.prog.stopKnobs == []) = true := by kernel_rfl
theorem stopsHeard : Tryd.pinned.checked.prog.stopsHeard = true := by kernel_rfl
end Go.Proofs.YtoegojolimaodaaDoor.Facts
end
section
namespace Go.Proofs
open Go.Shelf
def Tryd.lays156_ren : Go.Shelf.Ren := ⟨fun | 156 => 64 | 165 => 88 | 166 => 34 | 169 => 39 | 240 => 56 | 241 => 103 | 276 => 76 | 277 => 113 | n => n, fun | 31 => 41 | 9 => 9 | 3 => 3 | 4 => 4 | 0 => 0 | 20 => 20 | 72 => 56 | 76 => 59 | 70 => 54 | 37 => 52 | 75 => 58 | 127 => 90 | 164 => 111 | 5 => 5 | 80 => 64 | n => n, fun | n => n⟩
theorem Tryd.lays156 : Go.Proofs.Lays.n156 Tryd.prog Tryd.lays156_ren := {
  mixed := by kernel_rfl
  f156 := Tryd.func64.trans (congrArg some (by kernel_rfl))
  f165 := Tryd.func88.trans (congrArg some (by kernel_rfl))
  f166 := Tryd.func34.trans (congrArg some (by kernel_rfl))
  f169 := Tryd.func39.trans (congrArg some (by kernel_rfl))
  f240 := Tryd.func56.trans (congrArg some (by kernel_rfl))
  f241 := Tryd.func103.trans (congrArg some (by kernel_rfl))
  f276 := Tryd.func76.trans (congrArg some (by kernel_rfl))
  f277 := Tryd.func113.trans (congrArg some (by kernel_rfl))
  t0 := Tryd.underlying0
  a0 := Tryd.isAgg0
  z0 := Tryd.sizeOf0
  v0 := Tryd.zeroValue0
  t3 := Tryd.underlying3
  a3 := Tryd.isAgg3
  z3 := Tryd.sizeOf3
  v3 := Tryd.zeroValue3
  t4 := Tryd.underlying4
  a4 := Tryd.isAgg4
  z4 := Tryd.sizeOf4
  v4 := Tryd.zeroValue4
  t9 := Tryd.underlying9
  a9 := Tryd.isAgg9
  z9 := Tryd.sizeOf9
  v9 := Tryd.zeroValue9
  t20 := Tryd.underlying20
  a20 := Tryd.isAgg20
  z20 := Tryd.sizeOf20
  v20 := Tryd.zeroValue20
  t31 := Tryd.underlying41
  a31 := Tryd.isAgg41
  z31 := Tryd.sizeOf41
  v31 := Tryd.zeroValue41
  t37 := Tryd.underlying52
  a37 := Tryd.isAgg52
  z37 := Tryd.sizeOf52
  v37 := Tryd.zeroValue52
  t70 := Tryd.underlying54
  a70 := Tryd.isAgg54
  z70 := Tryd.sizeOf54
  v70 := Tryd.zeroValue54
  t72 := Tryd.underlying56
  a72 := Tryd.isAgg56
  z72 := Tryd.sizeOf56
  v72 := Tryd.zeroValue56
  t75 := Tryd.underlying58
  a75 := Tryd.isAgg58
  z75 := Tryd.sizeOf58
  v75 := Tryd.zeroValue58
  t76 := Tryd.underlying59
  a76 := Tryd.isAgg59
  z76 := Tryd.sizeOf59
  v76 := Tryd.zeroValue59
  t127 := Tryd.underlying90
  a127 := Tryd.isAgg90
  z127 := Tryd.sizeOf90
  v127 := Tryd.zeroValue90
  t164 := Tryd.underlying111
  a164 := Tryd.isAgg111
  z164 := Tryd.sizeOf111
  v164 := Tryd.zeroValue111 }
theorem Tryd.Builder_Extra_156 : Builder.Extra Tryd.prog Tryd.lays156_ren := {
  sizeBuilder := by kernel_rfl
  liesBuilder := by kernel_rfl
  t5 := Tryd.underlying5
  a5 := Tryd.isAgg5
  z5 := Tryd.sizeOf5
  v5 := Tryd.zeroValue5
  infoByte := by kernel_rfl
  cellsByte := by kernel_rfl
  sizeByte := by kernel_rfl
  neB5 := by decide }
open Go.RowKit in
theorem Tryd.strings_Join_none (a : Option Addr) (c : Nat) (sep : ByteArray) (w : World) :
    Calls Tryd.prog 64 #[.slice a 0 c, .string sep] w fun e w' => e = .returned (.string ⟨#[]⟩) ∧ w' = w := Any.strings_Join_none Tryd.lays156 Tryd.Builder_Extra_156 a c sep w
open Go.RowKit in
theorem Tryd.strings_Join (bk o c : Nat) (xs : List ByteArray) (sep : ByteArray) (w : World) (hcells : ∀ (j : Nat) x, xs[j]? = some x → w.cell? ⟨bk, o + j, none⟩ = some (.string x)) (hbk : bk < w.heap.size) (hN : xs.length ≤ 140737488355328) (hcap : xs.length ≤ c) (hlen : (Lib.join (xs.map (·.data.toList)) sep.data.toList).length ≤ 140737488355328) :
    Calls Tryd.prog 64 #[.slice (some ⟨bk, o, none⟩) xs.length c, .string sep] w fun e w' => e = .returned (.string ⟨(Lib.join (xs.map (·.data.toList)) sep.data.toList).toArray⟩) ∧ Below w.heap.size w w' := Any.strings_Join Tryd.lays156 Tryd.Builder_Extra_156 bk o c xs sep w hcells hbk hN hcap hlen
def Tryd.lays103_ren : Go.Shelf.Ren := ⟨fun | 103 => 30 | 210 => 54 | 206 => 74 | n => n, fun | 9 => 9 | 4 => 4 | 24 => 32 | 3 => 3 | n => n, fun | n => n⟩
theorem Tryd.lays103 : Go.Proofs.Lays.n103 Tryd.prog Tryd.lays103_ren := {
  mixed := by kernel_rfl
  f103 := Tryd.func30.trans (congrArg some (by kernel_rfl))
  f206 := Tryd.func74.trans (congrArg some (by kernel_rfl))
  f210 := Tryd.func54.trans (congrArg some (by kernel_rfl))
  t3 := Tryd.underlying3
  a3 := Tryd.isAgg3
  z3 := Tryd.sizeOf3
  v3 := Tryd.zeroValue3
  t4 := Tryd.underlying4
  a4 := Tryd.isAgg4
  z4 := Tryd.sizeOf4
  v4 := Tryd.zeroValue4
  t9 := Tryd.underlying9
  a9 := Tryd.isAgg9
  z9 := Tryd.sizeOf9
  v9 := Tryd.zeroValue9
  t24 := Tryd.underlying32
  a24 := Tryd.isAgg32
  z24 := Tryd.sizeOf32
  v24 := Tryd.zeroValue32 }
open Go.RowKit in
theorem Tryd.strings_CutPrefix (s p : ByteArray) (w : World) :
    Calls Tryd.prog 30 #[.string s, .string p] w fun e w' => e = .returned (.tuple #[.string ⟨(Lib.trimPrefix s.data.toList p.data.toList).toArray⟩, .bool (Lib.hasPrefix s.data.toList p.data.toList)]) ∧ w' = w := Any.strings_CutPrefix Tryd.lays103 s p w
def Tryd.lays104_ren : Go.Shelf.Ren := ⟨fun | 104 => 31 | 211 => 55 | 207 => 75 | n => n, fun | 9 => 9 | 4 => 4 | 24 => 32 | 3 => 3 | n => n, fun | n => n⟩
theorem Tryd.lays104 : Go.Proofs.Lays.n104 Tryd.prog Tryd.lays104_ren := {
  mixed := by kernel_rfl
  f104 := Tryd.func31.trans (congrArg some (by kernel_rfl))
  f207 := Tryd.func75.trans (congrArg some (by kernel_rfl))
  f211 := Tryd.func55.trans (congrArg some (by kernel_rfl))
  t3 := Tryd.underlying3
  a3 := Tryd.isAgg3
  z3 := Tryd.sizeOf3
  v3 := Tryd.zeroValue3
  t4 := Tryd.underlying4
  a4 := Tryd.isAgg4
  z4 := Tryd.sizeOf4
  v4 := Tryd.zeroValue4
  t9 := Tryd.underlying9
  a9 := Tryd.isAgg9
  z9 := Tryd.sizeOf9
  v9 := Tryd.zeroValue9
  t24 := Tryd.underlying32
  a24 := Tryd.isAgg32
  z24 := Tryd.sizeOf32
  v24 := Tryd.zeroValue32 }
open Go.RowKit in
theorem Tryd.strings_CutSuffix (s p : ByteArray) (w : World) (hs : s.size ≤ 9223372036854775807) :
    Calls Tryd.prog 31 #[.string s, .string p] w fun e w' => e = .returned (.tuple #[.string ⟨(Lib.trimSuffix s.data.toList p.data.toList).toArray⟩, .bool (Lib.hasSuffix s.data.toList p.data.toList)]) ∧ w' = w := Any.strings_CutSuffix Tryd.lays104 s p w hs
def Tryd.lays149_ren : Go.Shelf.Ren := ⟨fun | 149 => 116 | 222 => 120 | n => n, fun | 9 => 9 | 5 => 5 | 3 => 3 | 4 => 4 | n => n, fun | n => n⟩
theorem Tryd.lays149 : Go.Proofs.Lays.n149 Tryd.prog Tryd.lays149_ren := {
  mixed := by kernel_rfl
  f149 := Tryd.func116.trans (congrArg some (by kernel_rfl))
  f222 := Tryd.func120.trans (congrArg some (by kernel_rfl))
  t3 := Tryd.underlying3
  a3 := Tryd.isAgg3
  z3 := Tryd.sizeOf3
  v3 := Tryd.zeroValue3
  t4 := Tryd.underlying4
  a4 := Tryd.isAgg4
  z4 := Tryd.sizeOf4
  v4 := Tryd.zeroValue4
  t5 := Tryd.underlying5
  a5 := Tryd.isAgg5
  z5 := Tryd.sizeOf5
  v5 := Tryd.zeroValue5
  t9 := Tryd.underlying9
  a9 := Tryd.isAgg9
  z9 := Tryd.sizeOf9
  v9 := Tryd.zeroValue9 }
open Go.RowKit Go.Lib in
theorem Tryd.strings_LastIndexByte (s : ByteArray) (c : Int) (hs : s.size < 4611686018427387904) (w : World) :
    Calls Tryd.prog 116 #[.string s, .int .u8 c] w fun e w' => e = .returned (.int .i64 (Lib.lastIndexByte s c)) ∧ w' = w := Any.strings_LastIndexByte Tryd.lays149 s c hs w
end Go.Proofs
end
section
set_option linter.unusedVariables false
set_option linter.unusedSimpArgs false
namespace Go.Mdl
open Go Go.Abs
theorem ba_size (s : List UInt8) : (ByteArray.mk s.toArray).size = s.length := by simp [ByteArray.size]
theorem list2 {vs : List Value} (h : vs.length = 2) : ∃ a b, vs = [a, b] := by
  match vs, h with
  | [a, b], _ => exact ⟨a, b, rfl⟩
end Go.Mdl
namespace Go.Proofs.Tryd.Lib
open Go Go.Abs Go.Proofs Go.Mdl
set_option maxRecDepth 100000 in
set_option maxHeartbeats 4000000 in
theorem specCutPrefix (s p : List UInt8) : SpecE Tryd.prog 30 [] [.str s, .str p] [] (.tuple [.str (Lib.trimPrefix s p), .bool (Lib.hasPrefix s p)]) := by
  refine SpecE.ofCalls (by decide +kernel) (fun w ok vs hok hl hr => ?_)
  obtain ⟨v0, v1, rfl⟩ := list2 hl
  have e0 := (hr 0 _ _ rfl rfl).strInv
  have e1 := (hr 1 _ _ rfl rfl).strInv
  subst e0 e1
  refine (Tryd.strings_CutPrefix ⟨s.toArray⟩ ⟨p.toArray⟩ w).mono ?_
  rintro e w' ⟨rfl, rfl⟩
  refine ⟨_, rfl, RowKit.Below.refl _ _, fun ok' => .tuple [_, _] [_, _] rfl (fun i a v ha hv => ?_)⟩
  match i with
  | 0 => simp at ha hv; subst ha; subst hv; exact .str _
  | 1 => simp at ha hv; subst ha; subst hv; exact .bool _
  | _ + 2 => simp at ha
def tb_specCutPrefix : List Blk → List AV → Option (List Blk × AV × Prop)
  | [], [.str s, .str p] => some ([], .tuple [.str (Lib.trimPrefix s p), .bool (Lib.hasPrefix s p)], True)
  | _, _ => none
theorem tb_specCutPrefix_ok : ∀ E args E' res p, tb_specCutPrefix E args = some (E', res, p) → p → SpecE Tryd.prog 30 E args E' res := by
  intro E args E' res p h hp
  unfold tb_specCutPrefix at h
  split at h
  · simp only [Option.some.injEq, Prod.mk.injEq] at h
    obtain ⟨rfl, rfl, rfl⟩ := h
    exact (specCutPrefix _ _)
  · cases h
set_option maxRecDepth 100000 in
set_option maxHeartbeats 4000000 in
theorem specCutSuffix (s p : List UInt8) (hs : s.length ≤ maxLen) : SpecE Tryd.prog 31 [] [.str s, .str p] [] (.tuple [.str (Lib.trimSuffix s p), .bool (Lib.hasSuffix s p)]) := by
  refine SpecE.ofCalls (by decide +kernel) (fun w ok vs hok hl hr => ?_)
  obtain ⟨v0, v1, rfl⟩ := list2 hl
  have e0 := (hr 0 _ _ rfl rfl).strInv
  have e1 := (hr 1 _ _ rfl rfl).strInv
  subst e0 e1
  refine (Tryd.strings_CutSuffix ⟨s.toArray⟩ ⟨p.toArray⟩ w (by rw [ba_size]; exact hs)).mono ?_
  rintro e w' ⟨rfl, rfl⟩
  refine ⟨_, rfl, RowKit.Below.refl _ _, fun ok' => .tuple [_, _] [_, _] rfl (fun i a v ha hv => ?_)⟩
  match i with
  | 0 => simp at ha hv; subst ha; subst hv; exact .str _
  | 1 => simp at ha hv; subst ha; subst hv; exact .bool _
  | _ + 2 => simp at ha
def tb_specCutSuffix : List Blk → List AV → Option (List Blk × AV × Prop)
  | [], [.str s, .str p] => some ([], .tuple [.str (Lib.trimSuffix s p), .bool (Lib.hasSuffix s p)], (s.length ≤ maxLen))
  | _, _ => none
theorem tb_specCutSuffix_ok : ∀ E args E' res p, tb_specCutSuffix E args = some (E', res, p) → p → SpecE Tryd.prog 31 E args E' res := by
  intro E args E' res p h hp
  unfold tb_specCutSuffix at h
  split at h
  · simp only [Option.some.injEq, Prod.mk.injEq] at h
    obtain ⟨rfl, rfl, rfl⟩ := h
    exact (specCutSuffix _ _ hp)
  · cases h
set_option maxRecDepth 100000 in
set_option maxHeartbeats 4000000 in
theorem specLastIndexByte (s : List UInt8) (c : UInt8) (hs : s.length ≤ 1000000) : SpecE Tryd.prog 116 [] [.str s, enc_u8 c] [] (.int .i64 (Lib.lastIndexByte ⟨s.toArray⟩ c.toNat)) := by
  refine SpecE.ofCalls (by decide +kernel) (fun w ok vs hok hl hr => ?_)
  obtain ⟨v0, v1, rfl⟩ := list2 hl
  have e0 := (hr 0 _ _ rfl rfl).strInv
  have e1 := (hr 1 _ _ rfl rfl).intInv
  subst e0 e1
  refine (Tryd.strings_LastIndexByte ⟨s.toArray⟩ c.toNat (by rw [ba_size]; omega) w).mono ?_
  rintro e w' ⟨rfl, rfl⟩
  exact ⟨_, rfl, RowKit.Below.refl _ _, fun ok' => .int _ _⟩
def tb_specLastIndexByte : List Blk → List AV → Option (List Blk × AV × Prop)
  | [], [.str s, a1] => some ([], .int .i64 (Lib.lastIndexByte ⟨s.toArray⟩ (dec_u8 a1).toNat), (s.length ≤ 1000000) ∧ argOK a1 (enc_u8 (dec_u8 a1)))
  | _, _ => none
theorem tb_specLastIndexByte_ok : ∀ E args E' res p, tb_specLastIndexByte E args = some (E', res, p) → p → SpecE Tryd.prog 116 E args E' res := by
  intro E args E' res p h hp
  unfold tb_specLastIndexByte at h
  split at h
  · simp only [Option.some.injEq, Prod.mk.injEq] at h
    obtain ⟨rfl, rfl, rfl⟩ := h
    exact SpecE.args (specLastIndexByte _ _ hp.1) (.cons (argOK.refl _) (.cons hp.2 .nil))
  · cases h
set_option maxRecDepth 100000 in
set_option maxHeartbeats 4000000 in
theorem specJoin (l : List (List UInt8)) (p : List UInt8) (hn : l.length ≤ 1000000) (hj : (Lib.join l p).length ≤ 140737488355328) : SpecE Tryd.prog 64 [] [enc_strs l, .str p] [] (.str (Lib.join l p)) := by
  refine SpecE.ofCalls (by decide +kernel) (fun w ok vs hok hl hr => ?_)
  obtain ⟨v0, v1, rfl⟩ := list2 hl
  have h0 := hr 0 _ _ rfl rfl
  have e1 := (hr 1 _ _ rfl rfl).strInv
  subst e1
  obtain ⟨a, cap, rfl, hcap, hmx, hh⟩ := Rp.listInv h0
  have hmap : ∀ xs : List (List UInt8), (xs.map fun x => ByteArray.mk x.toArray).map (fun x => x.data.toList) = xs := fun xs => by simp [List.map_map, Function.comp_def]
  by_cases hnil : l = []
  · subst hnil
    refine (Tryd.strings_Join_none a cap ⟨p.toArray⟩ w).mono ?_
    rintro e w' ⟨rfl, rfl⟩
    refine ⟨_, rfl, RowKit.Below.refl _ _, fun ok' => ?_⟩
    exact .str []
  rcases hh with hh | ⟨b, off, cv, rfl, hs, h1, h2⟩
  · exact absurd (List.map_eq_nil_iff.1 hh) hnil
  have hc : ∀ (j : Nat) x, (l.map fun x => ByteArray.mk x.toArray)[j]? = some x → w.cell? ⟨b, off + j, none⟩ = some (.string x) := fun j x hx => by
    simp only [List.getElem?_map, Option.map_eq_some_iff] at hx
    obtain ⟨y, hy, rfl⟩ := hx
    have hx : (l.map AV.str)[j]? = some (.str y) := by simp [hy]
    have g1 := h1 j _ 0 _ hx rfl
    have g2 := (h2 j _ 0 _ hx rfl).strInv
    rw [g2] at g1
    simpa using g1.2.1
  have hb : b < w.heap.size := by
    obtain ⟨x, hx⟩ : ∃ x, l[0]? = some x := by cases l with | nil => exact absurd rfl hnil | cons x r => exact ⟨x, rfl⟩
    have g1 := h1 0 (.str x) 0 _ (by simp [hx]) rfl
    exact hok _ _ g1.1
  have key := Tryd.strings_Join b off cap (l.map fun x => ByteArray.mk x.toArray) ⟨p.toArray⟩ w hc hb (by simp; omega) (by simpa using hcap) (by rw [hmap]; exact hj)
  rw [hmap, List.length_map] at key
  have e2 : (l.map AV.str).length = l.length := by simp
  rw [e2]
  refine key.mono ?_
  rintro e w' ⟨rfl, hb⟩
  exact ⟨_, rfl, hb, fun ok' => .str _⟩
def tb_specJoin : List Blk → List AV → Option (List Blk × AV × Prop)
  | [], [a0, .str p] => some ([], .str (Lib.join (dec_strs a0) p), ((dec_strs a0).length ≤ 1000000) ∧ ((Lib.join (dec_strs a0) p).length ≤ 140737488355328) ∧ argOK a0 (enc_strs (dec_strs a0)))
  | _, _ => none
theorem tb_specJoin_ok : ∀ E args E' res p, tb_specJoin E args = some (E', res, p) → p → SpecE Tryd.prog 64 E args E' res := by
  intro E args E' res p h hp
  unfold tb_specJoin at h
  split at h
  · simp only [Option.some.injEq, Prod.mk.injEq] at h
    obtain ⟨rfl, rfl, rfl⟩ := h
    exact SpecE.args (specJoin _ _ hp.1 hp.2.1) (.cons hp.2.2 (.cons (argOK.refl _) .nil))
  · cases h
end Go.Proofs.Tryd.Lib
end
section
set_option linter.unusedVariables false
set_option linter.unusedSimpArgs false
namespace Go.Mdl
open Go Go.Abs
theorem arr_get (s : List UInt8) (j : Nat) : (ByteArray.mk s.toArray).data[j]! = s.getD j 0 := by
  simp [List.getD_eq_getElem?_getD, getElem!_def]
  cases s[j]? <;> rfl
theorem last_up (c : UInt8) (s : List UInt8) : Lib.lastIndexByte ⟨s.toArray⟩ (c.toNat : Int) = lastUp c s := by
  have hnot : ∀ {t : List UInt8} , (∀ j, j < t.length → t.getD j 0 ≠ c) → c ∉ t := by
    intro t h hm
    obtain ⟨j, hj⟩ := List.getElem?_of_mem hm
    have hl := (List.getElem?_eq_some_iff.1 hj).1
    rw [getD_of_lt (d := 0) hl] at hj
    exact h j hl (Option.some.inj hj)
  have hsz : (ByteArray.mk s.toArray).size = s.length := by simp [ByteArray.size]
  rcases Lib.lastIdx_spec ⟨s.toArray⟩ (c.toNat : Int) s.length with ⟨h1, h2⟩ | ⟨i, hi, h1, h2, h3⟩
  · have hn : c ∉ s := hnot (fun j hj e => h2 j hj (by rw [arr_get, e]))
    show Lib.lastIdx _ _ (ByteArray.mk s.toArray).size = _
    rw [hsz, h1]
    rcases Int.lt_or_le (lastUp c s) 0 with h | h
    · have := lastUp_ge c s; omega
    · exact absurd (by rw [(lastUp_spec h).1]; simp) hn
  · show Lib.lastIdx _ _ (ByteArray.mk s.toArray).size = _
    rw [hsz, h1]
    rw [arr_get] at h2
    have hc : s.getD i 0 = c := UInt8.toNat.inj (by omega)
    have hn : c ∉ s.drop (i + 1) := hnot (fun j hj e => by
      rw [getD_drop] at e
      rw [List.length_drop] at hj
      exact h3 (i + 1 + j) (by omega) (by omega) (by rw [arr_get, e]))
    have e : s = s.take i ++ c :: s.drop (i + 1) := by
      have := drop_cons hi
      rw [hc] at this
      rw [← this, List.take_append_drop]
    conv => rhs; rw [e]
    rw [lastUp_at hn, List.length_take]; omega
def litI (r : Int) : Bool := hexI r || decide (r = 58) || decide (r = 46)
theorem lit_rune : RuneB litI litB false := by
  refine ⟨fun c _ => ?_, fun r h => ?_, fun c h => ?_⟩
  · simp only [litI, litB, hexB, u8_lit, Nat.reduceLT]
  · have : hexI r = false := by simp [hexI]; omega
    simp only [litI, this, Bool.false_or, Bool.or_eq_false_iff, decide_eq_false_iff_not]; omega
  · have h1 : hexI c.toNat = false := by simp [hexI]; omega
    have h2 : c ≠ 58 := by rintro rfl; revert h; decide
    have h3 : c ≠ 46 := by rintro rfl; revert h; decide
    simp [litB, hexB, h1, h2, h3]
def inner (s : List UInt8) : List UInt8 := Lib.trimSuffix (Lib.trimPrefix s [91]) [93]
theorem lit_eq (s : List UInt8) : (Lib.hasPrefix s [91] && (inner s).all litB && Lib.hasSuffix (Lib.trimPrefix s [91]) [93] && !decide (inner s = [])) = litS s := by
  have hpre : ∀ {t : List UInt8} {c : UInt8}, Lib.hasPrefix t [c] = true ↔ ∃ r, t = c :: r := by
    intro t c
    simp only [Lib.hasPrefix, List.isPrefixOf_iff_prefix]
    constructor
    · rintro ⟨r, hr⟩; exact ⟨r, by simpa using hr.symm⟩
    · rintro ⟨r, rfl⟩; exact ⟨r, rfl⟩
  have hsuf : ∀ {t : List UInt8} {c : UInt8}, Lib.hasSuffix t [c] = true ↔ ∃ r, t = r ++ [c] := by
    intro t c
    simp only [Lib.hasSuffix, List.isSuffixOf_iff_suffix]
    constructor
    · rintro ⟨r, hr⟩; exact ⟨r, hr.symm⟩
    · rintro ⟨r, rfl⟩; exact ⟨r, rfl⟩
  rw [Bool.eq_iff_iff, lit_form]
  simp only [Bool.and_eq_true, Bool.not_eq_true', decide_eq_false_iff_not]
  constructor
  · rintro ⟨⟨⟨h1, h2⟩, h3⟩, h4⟩
    obtain ⟨r, rfl⟩ := hpre.1 h1
    have e1 : Lib.trimPrefix (91 :: r) [91] = r := by simp only [Lib.trimPrefix, h1, if_true]; rfl
    rw [e1] at h3
    obtain ⟨m, rfl⟩ := hsuf.1 h3
    have e2 : inner (91 :: (m ++ [93])) = m := by simp only [inner, e1, Lib.trimSuffix, h3, if_true]; simp
    rw [e2] at h2 h4
    exact ⟨m, h4, h2, rfl⟩
  · rintro ⟨m, h1, h2, rfl⟩
    have h3 : Lib.hasPrefix (91 :: (m ++ [93])) [91] = true := hpre.2 ⟨_, rfl⟩
    have e1 : Lib.trimPrefix (91 :: (m ++ [93])) [91] = m ++ [93] := by simp only [Lib.trimPrefix, h3, if_true]; rfl
    have h4 : Lib.hasSuffix (m ++ [93]) [93] = true := hsuf.2 ⟨_, rfl⟩
    have e2 : inner (91 :: (m ++ [93])) = m := by simp only [inner, e1, Lib.trimSuffix, h4, if_true]; simp
    rw [e1, e2]
    exact ⟨⟨⟨h3, h2⟩, h4⟩, h1⟩
theorem inner_len (s : List UInt8) : (inner s).length ≤ s.length := by
  have h1 : (Lib.trimPrefix s [91]).length ≤ s.length := by
    unfold Lib.trimPrefix; split
    · rw [List.length_drop]; omega
    · omega
  unfold inner
  generalize Lib.trimPrefix s [91] = t at *
  unfold Lib.trimSuffix; split
  · rw [List.length_take]; omega
  · omega
theorem host_ok {s : List UInt8} (h : hostErr s = 0) : hostName s = cutName s ∧ s ≠ [] ∧ nameS (cutName s) = true ∧ (cutHas s = false ∧ hostPort s = 80 ∨ cutHas s = true ∧ numErr 10 65535 (cutPort s) = 0 ∧ hostPort s = numVal 10 65535 (cutPort s)) := by
  have e1 : hostName s = cutName s := by simp [hostName, h]
  have e2 : hostPort s = if cutHas s = true then numVal 10 65535 (cutPort s) else 80 := by simp [hostPort, h]
  refine ⟨e1, ?_⟩
  unfold hostErr at h
  split at h
  · cases h
  · rename_i h0
    split at h
    · cases h
    · rename_i h1
      refine ⟨h0, by simpa using h1, ?_⟩
      split at h
      · rename_i h2
        exact .inl ⟨h2, by rw [e2, h2]; rfl⟩
      · rename_i h2
        have h2 : cutHas s = true := by simpa using h2
        split at h
        · rename_i h3
          exact .inr ⟨h2, h3, by rw [e2, h2]; rfl⟩
        · split at h <;> cases h
theorem host_bad {s : List UInt8} (h : hostErr s ≠ 0) : hostName s = [] ∧ hostPort s = 0 := by simp [hostName, hostPort, h]
theorem host_name_len (s : List UInt8) : (hostName s).length ≤ s.length := by
  unfold hostName
  split
  · unfold cutName; split
    · rw [List.length_take]; omega
    · omega
  · simp
theorem numVal_range {most : Int} (hm : 0 ≤ most) (s : List UInt8) : 0 ≤ numVal 10 most s ∧ numVal 10 most s ≤ most := by
  unfold numVal
  split
  · rename_i h
    unfold numErr at h
    split at h
    · cases h
    · split at h
      · rename_i h1
        split at h
        · cases h
        · exact ⟨numV_nonneg (by omega) _ h1, by omega⟩
      · cases h
  · omega
theorem host_port_range (s : List UInt8) : 0 ≤ hostPort s ∧ hostPort s ≤ 65535 := by
  have := numVal_range (most := 65535) (by omega) (cutPort s)
  unfold hostPort
  (repeat' split) <;> omega
end Go.Mdl
namespace Go.Proofs.Tryd.Host
open Go Go.Abs Go.Proofs Go.Mdl
def T_specLiteral : Tbl := fun g E args => (addT (addT (addT nilT 118 Go.Proofs.Tryd.Host.tb_specHex) 30 Go.Proofs.Tryd.Lib.tb_specCutPrefix) 31 Go.Proofs.Tryd.Lib.tb_specCutSuffix) g E args
theorem T_specLiteral_ok : TblOK Tryd.prog T_specLiteral := (addT_ok (addT_ok (addT_ok nilT_ok (by decide +kernel) Go.Proofs.Tryd.Host.tb_specHex_ok) (by decide +kernel) Go.Proofs.Tryd.Lib.tb_specCutPrefix_ok) (by decide +kernel) Go.Proofs.Tryd.Lib.tb_specCutSuffix_ok)
set_option maxRecDepth 100000 in
set_option maxHeartbeats 4000000 in
theorem specLiteral (s : List UInt8) (hs : s.length ≤ maxLen) : SpecE Tryd.prog 111 [] [.str s] [] (.bool (litS s)) := by
  refine specF0 (C := T_specLiteral) (wr := false) (D := fun _ => []) (U := fun _ => none) (res := [.bool (litS s)]) Tryd.Ty.mixed T_specLiteral_ok Tryd.func111 (nA := 1) (by decide +kernel) rfl (fun _ => rfl) ?_
  simp only [Tryd.f111, bodyOf, rlOf]
  rw [W_V]
  simp (config := {maxSteps := 2000000}) only [T_specLiteral, Go.Proofs.Tryd.Host.tb_specHex, Go.Proofs.Tryd.Lib.tb_specCutPrefix, Go.Proofs.Tryd.Lib.tb_specCutSuffix, go_sem, reduceIte, Nat.reduceEqDiff, Nat.reduceAdd, Nat.reduceMul, Nat.reduceDiv, Nat.reduceMod, Nat.reduceSub, Nat.reduceBEq, Nat.reduceLT, Nat.reduceLeDiff, reduceCtorEq, Int.reduceNeg, Int.reduceEq, String.reduceEq, Int.reduceLT, Int.reduceLE, Int.reduceToNat, Int.reduceAdd, Int.reduceMul, Int.reduceSub]
  (try simp (config := {maxSteps := 2000000}) only [gimp, impB, isT, go_sem, reduceIte, Nat.reduceEqDiff, Nat.reduceAdd, Nat.reduceMul, Nat.reduceDiv, Nat.reduceMod, Nat.reduceSub, Nat.reduceBEq, Nat.reduceLT, Nat.reduceLeDiff, reduceCtorEq, Int.reduceNeg, Int.reduceEq, String.reduceEq, Int.reduceLT, Int.reduceLE, Int.reduceToNat, Int.reduceAdd, Int.reduceMul, Int.reduceSub])
  have hil := inner_len s
  have hpl : (Lib.trimPrefix s [91]).length ≤ s.length := by
    unfold Lib.trimPrefix; split
    · rw [List.length_drop]; omega
    · omega
  refine ⟨by omega, ?_⟩
  rw [← lit_eq]
  rw [show Lib.trimSuffix (Lib.trimPrefix s [91]) [93] = inner s from rfl]
  generalize Lib.hasPrefix s [91] = ok0
  generalize hend : Lib.hasSuffix (Lib.trimPrefix s [91]) [93] = end0
  refine VL_inv (X := Nat × Bool) (fun x => ⟨[(3, .str (inner s)), (4, .bool x.2), (5, .bool end0), (19, .it 320)], [(320, .iter (inner s) x.1)]⟩) (fun x => x.1 ≤ (inner s).length ∧ (x.2 = true → ok0 = true ∧ ((inner s).take x.1).all litB = true) ∧ (x.2 = false → (ok0 && (inner s).all litB) = false)) (fun x => (inner s).length - x.1) (0, ok0) ?_ ?_ ?_
  · simp only [go_sem, go_sem, reduceIte, Nat.reduceEqDiff, Nat.reduceAdd, Nat.reduceMul, Nat.reduceDiv, Nat.reduceMod, Nat.reduceSub, Nat.reduceBEq, Nat.reduceLT, Nat.reduceLeDiff, reduceCtorEq, Int.reduceNeg, Int.reduceEq, String.reduceEq, Int.reduceLT, Int.reduceLE, Int.reduceToNat, Int.reduceAdd, Int.reduceMul, Int.reduceSub]
  · exact ⟨Nat.zero_le _, fun h => ⟨h, by simp⟩, fun h => by simp only at h; rw [h]; rfl⟩
  rintro ⟨x, ok⟩ ⟨hx, h1, h2⟩
  simp only at hx h1 h2
  generalize inner s = u at *
  simp (config := {maxSteps := 2000000}) only [T_specLiteral, Go.Proofs.Tryd.Host.tb_specHex, Go.Proofs.Tryd.Lib.tb_specCutPrefix, Go.Proofs.Tryd.Lib.tb_specCutSuffix, go_sem, reduceIte, Nat.reduceEqDiff, Nat.reduceAdd, Nat.reduceMul, Nat.reduceDiv, Nat.reduceMod, Nat.reduceSub, Nat.reduceBEq, Nat.reduceLT, Nat.reduceLeDiff, reduceCtorEq, Int.reduceNeg, Int.reduceEq, String.reduceEq, Int.reduceLT, Int.reduceLE, Int.reduceToNat, Int.reduceAdd, Int.reduceMul, Int.reduceSub]
  (try simp (config := {maxSteps := 2000000}) only [gimp, impB, isT, go_sem, reduceIte, Nat.reduceEqDiff, Nat.reduceAdd, Nat.reduceMul, Nat.reduceDiv, Nat.reduceMod, Nat.reduceSub, Nat.reduceBEq, Nat.reduceLT, Nat.reduceLeDiff, reduceCtorEq, Int.reduceNeg, Int.reduceEq, String.reduceEq, Int.reduceLT, Int.reduceLE, Int.reduceToNat, Int.reduceAdd, Int.reduceMul, Int.reduceSub])
  refine ⟨fun hlt => ⟨hlt, (x + (runeAt u x).2, ok && litI (runeAt u x).1), ⟨rfl, by rw [if_pos hlt]⟩, ⟨(rune_pos hlt).2.2, fun h => ?_, fun h => ?_⟩, by have := (rune_pos hlt).2; simp only; omega⟩, fun hge => ?_⟩
  · simp only [Bool.and_eq_true] at h
    obtain ⟨h3, h4⟩ := h1 h.1
    exact ⟨h3, (lit_rune.step hlt h4).1 h.2⟩
  · cases ok with
    | false => exact h2 rfl
    | true =>
      obtain ⟨h3, h4⟩ := h1 rfl
      rw [Bool.true_and] at h
      rw [(lit_rune.step hlt h4).2 h, Bool.and_false]
  · have : x = u.length := by omega
    subst this
    rw [List.take_length] at h1
    have : ok = (ok0 && u.all litB) := by
      cases ok with
      | false => exact (h2 rfl).symm
      | true => obtain ⟨h3, h4⟩ := h1 rfl; rw [h3, h4]; rfl
    rw [this]
def tb_specLiteral : List Blk → List AV → Option (List Blk × AV × Prop)
  | [], [.str s] => some ([], .bool (litS s), (s.length ≤ maxLen))
  | _, _ => none
theorem tb_specLiteral_ok : ∀ E args E' res p, tb_specLiteral E args = some (E', res, p) → p → SpecE Tryd.prog 111 E args E' res := by
  intro E args E' res p h hp
  unfold tb_specLiteral at h
  split at h
  · simp only [Option.some.injEq, Prod.mk.injEq] at h
    obtain ⟨rfl, rfl, rfl⟩ := h
    exact (specLiteral _ hp)
  · cases h
def T_specCut : Tbl := fun g E args => (addT (addT nilT 116 Go.Proofs.Tryd.Lib.tb_specLastIndexByte) 117 Go.Proofs.Tryd.Lib.tb_specIndexByte) g E args
theorem T_specCut_ok : TblOK Tryd.prog T_specCut := (addT_ok (addT_ok nilT_ok (by decide +kernel) Go.Proofs.Tryd.Lib.tb_specLastIndexByte_ok) (by decide +kernel) Go.Proofs.Tryd.Lib.tb_specIndexByte_ok)
set_option maxRecDepth 100000 in
set_option maxHeartbeats 4000000 in
theorem specCut (s : List UInt8) (hs : s.length ≤ 1000000) : SpecE Tryd.prog 109 [] [.str s] [] (.tuple [.str (cutName s), .str (cutPort s), .bool (cutHas s)]) := by
  refine specF0 (C := T_specCut) (wr := false) (D := fun _ => []) (U := fun _ => none) (res := [.str (cutName s), .str (cutPort s), .bool (cutHas s)]) Tryd.Ty.mixed T_specCut_ok Tryd.func109 (nA := 1) (by decide +kernel) rfl (fun _ => rfl) ?_
  simp only [Tryd.f109, bodyOf, rlOf]
  rw [W_V]
  simp (config := {maxSteps := 2000000}) only [T_specCut, Go.Proofs.Tryd.Lib.tb_specLastIndexByte, Go.Proofs.Tryd.Lib.tb_specIndexByte, go_sem, reduceIte, Nat.reduceEqDiff, Nat.reduceAdd, Nat.reduceMul, Nat.reduceDiv, Nat.reduceMod, Nat.reduceSub, Nat.reduceBEq, Nat.reduceLT, Nat.reduceLeDiff, reduceCtorEq, Int.reduceNeg, Int.reduceEq, String.reduceEq, Int.reduceLT, Int.reduceLE, Int.reduceToNat, Int.reduceAdd, Int.reduceMul, Int.reduceSub]
  (try simp (config := {maxSteps := 2000000}) only [gimp, impB, isT, go_sem, reduceIte, Nat.reduceEqDiff, Nat.reduceAdd, Nat.reduceMul, Nat.reduceDiv, Nat.reduceMod, Nat.reduceSub, Nat.reduceBEq, Nat.reduceLT, Nat.reduceLeDiff, reduceCtorEq, Int.reduceNeg, Int.reduceEq, String.reduceEq, Int.reduceLT, Int.reduceLE, Int.reduceToNat, Int.reduceAdd, Int.reduceMul, Int.reduceSub])
  have h1 := lastUp_lt 58 s
  have e1 : ((UInt8.ofNat 58).toNat : Int) = ((58 : UInt8).toNat : Int) := rfl
  rw [e1, last_up]
  have e2 : UInt8.ofNat 93 = (93 : UInt8) := rfl
  rw [e2]
  have hno : idxB 93 s ≤ lastUp 58 s → 0 ≤ lastUp 58 s → cutHas s = true := fun h h' => by simp [cutHas, h, h']
  have hyes : lastUp 58 s < idxB 93 s ∨ lastUp 58 s < 0 → cutHas s = false := fun h => by
    simp only [cutHas, decide_eq_false_iff_not]; omega
  refine ⟨⟨hs, rfl⟩, rfl, fun h => ?_, fun h h' => ⟨by omega, by omega, by omega, ?_, ?_, (hno h h').symm⟩⟩
  · have := cut_no (hyes h)
    exact ⟨this.1.symm, this.2.symm, (hyes h).symm⟩
  · simp only [cutName, hno h h', if_true]
  · simp only [cutPort, hno h h', if_true]
    congr 1; omega
def tb_specCut : List Blk → List AV → Option (List Blk × AV × Prop)
  | [], [.str s] => some ([], .tuple [.str (cutName s), .str (cutPort s), .bool (cutHas s)], (s.length ≤ 1000000))
  | _, _ => none
theorem tb_specCut_ok : ∀ E args E' res p, tb_specCut E args = some (E', res, p) → p → SpecE Tryd.prog 109 E args E' res := by
  intro E args E' res p h hp
  unfold tb_specCut at h
  split at h
  · simp only [Option.some.injEq, Prod.mk.injEq] at h
    obtain ⟨rfl, rfl, rfl⟩ := h
    exact (specCut _ hp)
  · cases h
def T_specParse : Tbl := fun g E args => (addT (addT (addT (addT nilT 110 Go.Proofs.Tryd.Host.tb_specRegistered) 111 Go.Proofs.Tryd.Host.tb_specLiteral) 109 Go.Proofs.Tryd.Host.tb_specCut) 20 Go.Proofs.Tryd.Dig.tb_specDec) g E args
theorem T_specParse_ok : TblOK Tryd.prog T_specParse := (addT_ok (addT_ok (addT_ok (addT_ok nilT_ok (by decide +kernel) Go.Proofs.Tryd.Host.tb_specRegistered_ok) (by decide +kernel) Go.Proofs.Tryd.Host.tb_specLiteral_ok) (by decide +kernel) Go.Proofs.Tryd.Host.tb_specCut_ok) (by decide +kernel) Go.Proofs.Tryd.Dig.tb_specDec_ok)
set_option maxRecDepth 100000 in
set_option maxHeartbeats 4000000 in
theorem specParse (s : List UInt8) (hs : s.length ≤ 1000000) : SpecE Tryd.prog 99 [] [.str s] [] (.tuple [.str (hostName s), .int .i64 (hostPort s), .int .i64 (hostErr s)]) := by
  refine specF0 (C := T_specParse) (wr := false) (D := fun _ => []) (U := fun _ => none) (res := [.str (hostName s), .int .i64 (hostPort s), .int .i64 (hostErr s)]) Tryd.Ty.mixed T_specParse_ok Tryd.func99 (nA := 1) (by decide +kernel) rfl (fun _ => rfl) ?_
  simp only [Tryd.f99, bodyOf, rlOf]
  rw [W_V]
  simp (config := {maxSteps := 2000000}) only [T_specParse, Go.Proofs.Tryd.Host.tb_specRegistered, Go.Proofs.Tryd.Host.tb_specLiteral, Go.Proofs.Tryd.Host.tb_specCut, Go.Proofs.Tryd.Dig.tb_specDec, go_sem, reduceIte, Nat.reduceEqDiff, Nat.reduceAdd, Nat.reduceMul, Nat.reduceDiv, Nat.reduceMod, Nat.reduceSub, Nat.reduceBEq, Nat.reduceLT, Nat.reduceLeDiff, reduceCtorEq, Int.reduceNeg, Int.reduceEq, String.reduceEq, Int.reduceLT, Int.reduceLE, Int.reduceToNat, Int.reduceAdd, Int.reduceMul, Int.reduceSub]
  (try simp (config := {maxSteps := 2000000}) only [gimp, impB, isT, go_sem, reduceIte, Nat.reduceEqDiff, Nat.reduceAdd, Nat.reduceMul, Nat.reduceDiv, Nat.reduceMod, Nat.reduceSub, Nat.reduceBEq, Nat.reduceLT, Nat.reduceLeDiff, reduceCtorEq, Int.reduceNeg, Int.reduceEq, String.reduceEq, Int.reduceLT, Int.reduceLE, Int.reduceToNat, Int.reduceAdd, Int.reduceMul, Int.reduceSub])
  have hcl : (cutName s).length ≤ s.length := by
    unfold cutName; split
    · rw [List.length_take]; omega
    · omega
  have hm : (1000000 : Nat) ≤ maxLen := by decide
  have bad : ∀ e : Int, e = hostErr s → e ≠ 0 → [] = hostName s ∧ 0 = hostPort s ∧ e = hostErr s := fun e h h' => by
    have := host_bad (s := s) (by rw [← h]; exact h')
    exact ⟨this.1.symm, this.2.symm, h⟩
  have good : 0 = hostErr s → cutName s = hostName s := fun h => (host_ok h.symm).1.symm
  refine ⟨fun h => bad 2 (by simp [hostErr, h]) (by decide), fun h0 => ⟨hs, fun _ => by omega, fun r1 r2 => bad 3 (by simp [hostErr, h0, nameS, r1, r2]) (by decide), fun hn => ?_⟩⟩
  have hn' : nameS (cutName s) = true := by
    simp only [nameS, Bool.or_eq_true]
    cases h1 : regS (cutName s) with
    | true => exact .inl rfl
    | false => rw [h1] at hn; right; simpa using hn
  refine ⟨fun hc => ?_, fun hc => ⟨fun he => ?_, fun he => ⟨fun h5 => ?_, fun h5 => ?_⟩⟩⟩
  · have e : hostErr s = 0 := by simp [hostErr, h0, hn', hc]
    exact ⟨good e.symm, by simp [hostPort, e, hc], e.symm⟩
  · have e : hostErr s = 0 := by simp [hostErr, h0, hn', hc, he]
    exact ⟨good e.symm, by simp [hostPort, e, hc], by rw [he, e]⟩
  · exact bad _ (by simp [hostErr, h0, hn', hc, h5]) he
  · exact bad 3 (by simp [hostErr, h0, hn', hc, he, h5]) (by decide)
def tb_specParse : List Blk → List AV → Option (List Blk × AV × Prop)
  | [], [.str s] => some ([], .tuple [.str (hostName s), .int .i64 (hostPort s), .int .i64 (hostErr s)], (s.length ≤ 1000000))
  | _, _ => none
theorem tb_specParse_ok : ∀ E args E' res p, tb_specParse E args = some (E', res, p) → p → SpecE Tryd.prog 99 E args E' res := by
  intro E args E' res p h hp
  unfold tb_specParse at h
  split at h
  · simp only [Option.some.injEq, Prod.mk.injEq] at h
    obtain ⟨rfl, rfl, rfl⟩ := h
    exact (specParse _ hp)
  · cases h
def T_specText : Tbl := fun g E args => (addT (addT nilT 112 Go.Proofs.Tryd.Oct.tb_specLower) 26 Go.Proofs.Tryd.Dig.tb_specText) g E args
theorem T_specText_ok : TblOK Tryd.prog T_specText := (addT_ok (addT_ok nilT_ok (by decide +kernel) Go.Proofs.Tryd.Oct.tb_specLower_ok) (by decide +kernel) Go.Proofs.Tryd.Dig.tb_specText_ok)
set_option maxRecDepth 100000 in
set_option maxHeartbeats 4000000 in
theorem specText (n : List UInt8) (p : Int) (hn : n.length ≤ 1000000) (hp : inR .i64 p) : SpecE Tryd.prog 100 [] [.str n, .int .i64 p] [] (.str (hostText n p)) := by
  refine specF0 (C := T_specText) (wr := false) (D := fun _ => []) (U := fun _ => none) (res := [.str (hostText n p)]) Tryd.Ty.mixed T_specText_ok Tryd.func100 (nA := 2) (by decide +kernel) rfl (fun _ => rfl) ?_
  simp only [Tryd.f100, bodyOf, rlOf]
  rw [W_V]
  simp (config := {maxSteps := 2000000}) only [T_specText, Go.Proofs.Tryd.Oct.tb_specLower, Go.Proofs.Tryd.Dig.tb_specText, go_sem, reduceIte, Nat.reduceEqDiff, Nat.reduceAdd, Nat.reduceMul, Nat.reduceDiv, Nat.reduceMod, Nat.reduceSub, Nat.reduceBEq, Nat.reduceLT, Nat.reduceLeDiff, reduceCtorEq, Int.reduceNeg, Int.reduceEq, String.reduceEq, Int.reduceLT, Int.reduceLE, Int.reduceToNat, Int.reduceAdd, Int.reduceMul, Int.reduceSub]
  (try simp (config := {maxSteps := 2000000}) only [gimp, impB, isT, go_sem, reduceIte, Nat.reduceEqDiff, Nat.reduceAdd, Nat.reduceMul, Nat.reduceDiv, Nat.reduceMod, Nat.reduceSub, Nat.reduceBEq, Nat.reduceLT, Nat.reduceLeDiff, reduceCtorEq, Int.reduceNeg, Int.reduceEq, String.reduceEq, Int.reduceLT, Int.reduceLE, Int.reduceToNat, Int.reduceAdd, Int.reduceMul, Int.reduceSub])
  have h1 := textI_len p
  simp only [inR] at hp
  have h2 := lowerS_len n
  have h3 : (lowerS n ++ [58]).length = n.length + 1 := by simp [h2]
  have hm : (1000000 : Nat) ≤ maxLen := by decide
  refine ⟨by omega, fun h => by simp [hostText, h], fun h => ⟨by omega, hp, by omega, by simp [hostText, h]⟩⟩
def tb_specText : List Blk → List AV → Option (List Blk × AV × Prop)
  | [], [.str n, .int .i64 p] => some ([], .str (hostText n p), (n.length ≤ 1000000) ∧ (inR .i64 p))
  | _, _ => none
theorem tb_specText_ok : ∀ E args E' res p, tb_specText E args = some (E', res, p) → p → SpecE Tryd.prog 100 E args E' res := by
  intro E args E' res p h hp
  unfold tb_specText at h
  split at h
  · simp only [Option.some.injEq, Prod.mk.injEq] at h
    obtain ⟨rfl, rfl, rfl⟩ := h
    exact (specText _ _ hp.1 hp.2)
  · cases h
def T_specKey : Tbl := fun g E args => (addT (addT nilT 99 Go.Proofs.Tryd.Host.tb_specParse) 100 Go.Proofs.Tryd.Host.tb_specText) g E args
theorem T_specKey_ok : TblOK Tryd.prog T_specKey := (addT_ok (addT_ok nilT_ok (by decide +kernel) Go.Proofs.Tryd.Host.tb_specParse_ok) (by decide +kernel) Go.Proofs.Tryd.Host.tb_specText_ok)
set_option maxRecDepth 100000 in
set_option maxHeartbeats 4000000 in
theorem specKey (s : List UInt8) (hs : s.length ≤ 1000000) : SpecE Tryd.prog 86 [] [.str s] [] (.tuple [.str (hostKey s), .bool (hostKeyOk s)]) := by
  refine specF0 (C := T_specKey) (wr := false) (D := fun _ => []) (U := fun _ => none) (res := [.str (hostKey s), .bool (hostKeyOk s)]) Tryd.Ty.mixed T_specKey_ok Tryd.func86 (nA := 1) (by decide +kernel) rfl (fun _ => rfl) ?_
  simp only [Tryd.f86, bodyOf, rlOf]
  rw [W_V]
  simp (config := {maxSteps := 2000000}) only [T_specKey, Go.Proofs.Tryd.Host.tb_specParse, Go.Proofs.Tryd.Host.tb_specText, go_sem, reduceIte, Nat.reduceEqDiff, Nat.reduceAdd, Nat.reduceMul, Nat.reduceDiv, Nat.reduceMod, Nat.reduceSub, Nat.reduceBEq, Nat.reduceLT, Nat.reduceLeDiff, reduceCtorEq, Int.reduceNeg, Int.reduceEq, String.reduceEq, Int.reduceLT, Int.reduceLE, Int.reduceToNat, Int.reduceAdd, Int.reduceMul, Int.reduceSub]
  (try simp (config := {maxSteps := 2000000}) only [gimp, impB, isT, go_sem, reduceIte, Nat.reduceEqDiff, Nat.reduceAdd, Nat.reduceMul, Nat.reduceDiv, Nat.reduceMod, Nat.reduceSub, Nat.reduceBEq, Nat.reduceLT, Nat.reduceLeDiff, reduceCtorEq, Int.reduceNeg, Int.reduceEq, String.reduceEq, Int.reduceLT, Int.reduceLE, Int.reduceToNat, Int.reduceAdd, Int.reduceMul, Int.reduceSub])
  have h1 := host_name_len s
  have h2 := host_port_range s
  refine ⟨hs, fun h => by simp [hostKey, hostKeyOk, h], fun h => ⟨⟨by omega, by omega, by omega⟩, by simp [hostKey, hostKeyOk, h]⟩⟩
def tb_specKey : List Blk → List AV → Option (List Blk × AV × Prop)
  | [], [.str s] => some ([], .tuple [.str (hostKey s), .bool (hostKeyOk s)], (s.length ≤ 1000000))
  | _, _ => none
theorem tb_specKey_ok : ∀ E args E' res p, tb_specKey E args = some (E', res, p) → p → SpecE Tryd.prog 86 E args E' res := by
  intro E args E' res p h hp
  unfold tb_specKey at h
  split at h
  · simp only [Option.some.injEq, Prod.mk.injEq] at h
    obtain ⟨rfl, rfl, rfl⟩ := h
    exact (specKey _ hp)
  · cases h
end Go.Proofs.Tryd.Host
end
section
set_option linter.unusedVariables false
set_option linter.unusedSimpArgs false
namespace Go.Mdl
open Go Go.Abs
def cfgLo : List Int := [0, 0, 0, 0, 1, 1, 0, 0, 1, 1, 0, 16, 1, 3, 0, 0]
def cfgHi : List Int := [1, 1, 1, 1, 65536, 65536, 100, 1073741824, 16, 16, 1, 65536, 1000, 4096, 1048576, 1]
def cfgL (n0 n1 n2 n3 n4 n5 n6 n7 n8 n9 n10 n11 n12 n13 n14 n15 : Int) : List Int := [n0, n1, n2, n3, n4, n5, n6, n7, n8, n9, n10, n11, n12, n13, n14, n15]
def cfgAt (l : List Int) (i : Nat) : Bool := decide (cfgLo.getD i 0 ≤ l.getD i 0) && decide (l.getD i 0 ≤ cfgHi.getD i 0)
def cfgOk (l : List Int) : Bool := (List.range 16).all (cfgAt l)
def cfgErr (nm au : List UInt8) (l : List Int) : Int :=
  if tokenS nm = false ∨ 100 < nm.length then 6
  else if au ≠ [] ∧ (hostKey au ≠ au ∨ 200 < au.length) then 13
  else if cfgOk l = true then 0 else 5
def cfgAu (au : List UInt8) : List UInt8 := if au = [] then [45] else au
def cfgText (nm au : List UInt8) (l : List Int) : List UInt8 :=
  if cfgErr nm au l = 0 then nm ++ 32 :: cfgAu au ++ l.flatMap (fun n => 32 :: textI n) else []
theorem cfgL_len (n0 n1 n2 n3 n4 n5 n6 n7 n8 n9 n10 n11 n12 n13 n14 n15 : Int) : (cfgL n0 n1 n2 n3 n4 n5 n6 n7 n8 n9 n10 n11 n12 n13 n14 n15).length = 16 := rfl
theorem cfgErr_name {nm au : List UInt8} {l : List Int} (h : tokenS nm = false ∨ (100 : Int) < nm.length) : cfgErr nm au l = 6 := by
  rw [cfgErr, if_pos]
  rcases h with h | h
  · exact .inl h
  · exact .inr (by omega)
theorem cfgErr_host {nm au : List UInt8} {l : List Int} (h1 : tokenS nm = true) (h2 : (nm.length : Int) ≤ 100) (h3 : ¬au = []) (h4 : ¬hostKey au = au ∨ (200 : Int) < (hostKey au).length) : cfgErr nm au l = 13 := by
  rw [cfgErr, if_neg (by rw [h1]; rintro (h | h); cases h; omega), if_pos]
  refine ⟨h3, ?_⟩
  by_cases h : hostKey au = au
  · rw [h] at h4; simp only [not_true_eq_false, false_or] at h4; exact .inr (by omega)
  · exact .inl h
theorem cfgErr_num {nm au : List UInt8} {l : List Int} (h1 : tokenS nm = true) (h2 : (nm.length : Int) ≤ 100) (h3 : (!decide (au = []) && (!decide (hostKey au = au) || decide ((200 : Int) < (hostKey au).length))) = false) : cfgErr nm au l = if cfgOk l = true then 0 else 5 := by
  rw [cfgErr, if_neg (by rw [h1]; rintro (h | h); cases h; omega), if_neg]
  rintro ⟨g1, g2⟩
  simp only [g1, decide_false, Bool.not_false, Bool.true_and, Bool.or_eq_false_iff, Bool.not_eq_false', decide_eq_true_eq, decide_eq_false_iff_not] at h3
  rcases g2 with g | g
  · exact g h3.1
  · rw [h3.1] at h3; omega
theorem cfgOk_out {l : List Int} (i : Nat) (hi : i < 16) (h : l.getD i 0 < cfgLo.getD i 0 ∨ cfgHi.getD i 0 < l.getD i 0) : (5 : Int) = if cfgOk l = true then 0 else 5 := by
  rw [if_neg]
  intro h2
  have := List.all_eq_true.1 h2 i (List.mem_range.2 hi)
  simp only [cfgAt, Bool.and_eq_true, decide_eq_true_eq] at this
  omega
theorem cfgOk_in {l : List Int} (h : ∀ i, i < 16 → cfgLo.getD i 0 ≤ l.getD i 0 ∧ l.getD i 0 ≤ cfgHi.getD i 0) : (0 : Int) = if cfgOk l = true then 0 else 5 := by
  rw [if_pos]
  rw [cfgOk, List.all_eq_true]
  intro i hi
  have := h i (List.mem_range.1 hi)
  simp only [cfgAt, Bool.and_eq_true, decide_eq_true_eq]
  exact this
theorem cfgOk_get {l : List Int} (h : cfgOk l = true) (i : Nat) (hi : i < 16) : cfgLo.getD i 0 ≤ l.getD i 0 ∧ l.getD i 0 ≤ cfgHi.getD i 0 := by
  have := List.all_eq_true.1 h i (List.mem_range.2 hi)
  simpa only [cfgAt, Bool.and_eq_true, decide_eq_true_eq] using this
theorem cfg_next {l : List Int} {k : Nat} (h : ∀ i : Nat, (i : Int) < (k : Int) → cfgLo.getD i 0 ≤ l.getD i 0 ∧ l.getD i 0 ≤ cfgHi.getD i 0) (hk : cfgLo.getD k 0 ≤ l.getD k 0 ∧ l.getD k 0 ≤ cfgHi.getD k 0) :
    ∀ i : Nat, (i : Int) < ((k + 1 : Nat) : Int) → cfgLo.getD i 0 ≤ l.getD i 0 ∧ l.getD i 0 ≤ cfgHi.getD i 0 := by
  intro i hi
  by_cases e : i = k
  · subst e; exact hk
  · exact h i (by omega)
theorem cfgErr_ok {nm au : List UInt8} {l : List Int} (h : cfgErr nm au l = 0) : nm.length ≤ 100 ∧ au.length ≤ 200 ∧ cfgOk l = true := by
  unfold cfgErr at h
  split at h
  · simp at h
  · rename_i h1
    split at h
    · simp at h
    · rename_i h2
      split at h
      · rename_i h3
        refine ⟨by simp only [not_or] at h1; omega, ?_, h3⟩
        by_cases e : au = []
        · subst e; simp
        · simp only [not_and, not_or] at h2
          have := (h2 e).2
          omega
      · simp at h
theorem cfg_range {l : List Int} (h : cfgOk l = true) (i : Nat) (hi : i < 16) : inR .i64 (l.getD i 0) := by
  have h1 := cfgOk_get h i hi
  have h2 : ∀ i, i < 16 → -10 ≤ cfgLo.getD i 0 ∧ cfgHi.getD i 0 ≤ 1073741824 := by decide
  have := h2 i hi
  simp only [inR]
  omega
theorem cfg_join (a b : List UInt8) (l : List Int) : Lib.join (a :: b :: l.map textI) [32] = a ++ 32 :: b ++ l.flatMap (fun n => 32 :: textI n) := by
  rw [Lib.join_cons, Lib.joinTail, List.map_cons, List.flatten_cons, List.map_map]
  simp [List.flatMap_def, Function.comp_def]
theorem flat_text_len (l : List Int) : (l.flatMap (fun n => 32 :: textI n)).length ≤ 72 * l.length := by
  induction l with
  | nil => simp
  | cons a r ih =>
    have := textI_len a
    simp only [List.flatMap_cons, List.length_append, List.length_cons]
    omega
theorem cfgAu_len (au : List UInt8) : (cfgAu au).length ≤ au.length + 1 := by unfold cfgAu; split <;> simp
theorem map_text_snoc (l : List Int) (k : Nat) (h : k < l.length) : (l.take (k + 1)).map textI = (l.take k).map textI ++ [textI (l.getD k 0)] := by
  rw [take_succ_getD 0 h, List.map_append]; simp
def cfgW (nm au : List UInt8) (l : List Int) (k : Nat) : List (List UInt8) := nm :: cfgAu au :: (l.take k).map textI
theorem cfgW_zero (nm au : List UInt8) (l : List Int) : cfgW nm au l 0 = [nm, cfgAu au] := rfl
theorem cfgW_next (nm au : List UInt8) (l : List Int) (k : Nat) (h : k < l.length) : cfgW nm au l (k + 1) = cfgW nm au l k ++ [textI (l.getD k 0)] := by
  rw [cfgW, cfgW, map_text_snoc l k h]; rfl
theorem cfgW_len (nm au : List UInt8) (l : List Int) (k : Nat) (h : k ≤ l.length) : (cfgW nm au l k).length = k + 2 := by
  simp only [cfgW, List.length_cons, List.length_map, List.length_take]; omega
theorem cfgW_step (nm au : List UInt8) {l : List Int} (hl : l.length = 16) (k : Nat) (h : k < 16) :
    ((cfgW nm au l k).length ≤ 9223372036854775806 ∧ ((cfgW nm au l k).length + 1) * 16 ≤ 140737488355328) ∧ (cfgW nm au l k).length + 1 = (cfgW nm au l (k + 1)).length ∧
      (cfgW nm au l k).map AV.str ++ [.str (textI (l.getD k 0))] = (cfgW nm au l (k + 1)).map .str := by
  have h1 := cfgW_len nm au l k (by omega)
  have h2 := cfgW_len nm au l (k + 1) (by omega)
  refine ⟨⟨by omega, by omega⟩, by omega, ?_⟩
  rw [cfgW_next nm au l k (by omega), List.map_append]; rfl
theorem cfgW_all (nm au : List UInt8) (l : List Int) : Lib.join (cfgW nm au l l.length) [32] = nm ++ 32 :: cfgAu au ++ l.flatMap (fun n => 32 :: textI n) := by
  rw [cfgW, List.take_length, cfg_join]
end Go.Mdl
end
section
set_option linter.unusedVariables false
set_option linter.unusedSimpArgs false
namespace Go.Mdl
open Go Go.Abs
def cfgTo : Nat → Int := fun i => cfgHi.getD i 0
def cfgNm (s : List UInt8) : List UInt8 := (splitB 32 s).getD 0 []
def cfgW1 (s : List UInt8) : List UInt8 := (splitB 32 s).getD 1 []
def cfgA1 (s : List UInt8) : List UInt8 := if cfgW1 s = [45] then [] else cfgW1 s
def cfgN (M : Nat → Int) (s : List UInt8) (i : Nat) : Int := numVal 10 (M i) ((splitB 32 s).getD (i + 2) [])
def cfgNs (M : Nat → Int) (s : List UInt8) : List Int := cfgL (cfgN M s 0) (cfgN M s 1) (cfgN M s 2) (cfgN M s 3) (cfgN M s 4) (cfgN M s 5) (cfgN M s 6) (cfgN M s 7) (cfgN M s 8) (cfgN M s 9) (cfgN M s 10) (cfgN M s 11) (cfgN M s 12) (cfgN M s 13) (cfgN M s 14) (cfgN M s 15)
def cfgHas (M : Nat → Int) (s : List UInt8) : Bool := decide ((splitB 32 s).length = 18) && (!decide (s = []) && decide (cfgText (cfgNm s) (cfgA1 s) (cfgNs M s) = s))
def cfgRN (s : List UInt8) : List UInt8 := if cfgHas cfgTo s = true then cfgNm s else []
def cfgRA (s : List UInt8) : List UInt8 := if cfgHas cfgTo s = true then cfgA1 s else []
def cfgRI (s : List UInt8) (i : Nat) : Int := if cfgHas cfgTo s = true then cfgN cfgTo s i else 0
def cfgRE (s : List UInt8) : Int := if cfgHas cfgTo s = true then 0 else 3
theorem getD_split_len (c : UInt8) (s : List UInt8) (i : Nat) : ((splitB c s).getD i []).length ≤ s.length := by
  rw [List.getD_eq_getElem?_getD]
  cases h : (splitB c s)[i]? with
  | none => simp
  | some w => exact splitB_mem_len (List.mem_of_getElem? h)
def cfgK (s : List UInt8) (k i : Int) : Int := if i < k then cfgN cfgTo s i.toNat else 0
end Go.Mdl
end
section
set_option linter.unusedVariables false
set_option linter.unusedSimpArgs false
namespace Go.Mdl
open Go Go.Abs
def prL (s : List UInt8) : List (List UInt8) := splitB 10 (Lib.trimSuffix s [10])
def prW (s : List UInt8) (i : Nat) : List UInt8 := (prL s).getD i []
def prNowN (s : List UInt8) : Int := numVal 10 1099511627776 (prW s 1)
def prShort (s : List UInt8) : Bool := !Lib.hasSuffix s [10] || decide ((prL s).length < 2)
def prNowB (s : List UInt8) : Bool := decide (numErr 10 1099511627776 (prW s 1) = 0) && decide (textI (prNowN s) = prW s 1)
def prRows (s : List UInt8) : List (List UInt8) := (prL s).drop 2
def prOk (s : List UInt8) : Bool := !prShort s && (cfgHas cfgTo (prW s 0) && (prNowB s && (prRows s).all evB))
def prNm (s : List UInt8) : List UInt8 := if prOk s = true then cfgRN (prW s 0) else []
def prAu (s : List UInt8) : List UInt8 := if prOk s = true then cfgRA (prW s 0) else []
def prI (s : List UInt8) (i : Nat) : Int := if prOk s = true then cfgRI (prW s 0) i else 0
def prNow (s : List UInt8) : Int := if prOk s = true then prNowN s else 0
def prEvs (s : List UInt8) : List Ev := if prOk s = true then (prRows s).map evS else []
def prN (s : List UInt8) : Int :=
  if prShort s = true then (cntB 10 s : Nat)
  else if cfgHas cfgTo (prW s 0) = false then 1
  else if prNowB s = false then 2
  else if prOk s = true then (prL s).length
  else ((prRows s).takeWhile evB).length + 3
def prE (s : List UInt8) : Int := if prShort s = true then 2 else if prOk s = true then 0 else 3
theorem prShort_iff (s : List UInt8) : prShort s = true ↔ (Lib.hasSuffix s [10] = false ∨ (prL s).length < 2) := by simp [prShort]
theorem prNowB_iff (s : List UInt8) : prNowB s = true ↔ (numErr 10 1099511627776 (prW s 1) = 0 ∧ textI (prNowN s) = prW s 1) := by simp [prNowB]
theorem cfgRE_iff (w : List UInt8) : cfgRE w = 0 ↔ cfgHas cfgTo w = true := by simp [cfgRE]
theorem prL_len (s : List UInt8) : (prL s).length ≤ s.length + 1 ∧ 1 ≤ (prL s).length := by
  have h1 := splitB_len 10 (Lib.trimSuffix s [10])
  have h2 := cntB_le 10 (Lib.trimSuffix s [10])
  have h3 := trimSuffix_len s [10]
  unfold prL; omega
theorem prW_len (s : List UInt8) (i : Nat) : (prW s i).length ≤ s.length := Nat.le_trans (getD_split_len 10 _ i) (trimSuffix_len s [10])
theorem pr_no {s : List UInt8} (h : prOk s = false) : prNm s = [] ∧ prAu s = [] ∧ (∀ i, prI s i = 0) ∧ prNow s = 0 ∧ prEvs s = [] ∧ prE s = if prShort s = true then 2 else 3 := by
  simp [prNm, prAu, prI, prNow, prEvs, prE, h]
theorem pr_short {s : List UInt8} (h : prShort s = true) : prOk s = false ∧ prN s = (cntB 10 s : Nat) := by simp [prOk, prN, h]
theorem pr_cfg {s : List UInt8} (h : prShort s = false) (h1 : cfgHas cfgTo (prW s 0) = false) : prOk s = false ∧ prN s = 1 := by simp [prOk, prN, h, h1]
theorem pr_now {s : List UInt8} (h : prShort s = false) (h1 : cfgHas cfgTo (prW s 0) = true) (h2 : prNowB s = false) : prOk s = false ∧ prN s = 2 := by simp [prOk, prN, h, h1, h2]
theorem tw_bad {α : Type} {p : α → Bool} {d : α} : ∀ {l : List α} {k : Nat}, k < l.length → (l.take k).all p = true → p (l.getD k d) = false → (l.takeWhile p).length = k ∧ l.all p = false
  | [], k, h, _, _ => by simp at h
  | x :: l, 0, _, _, h => by
    have h' : p x = false := h
    simp [h']
  | x :: l, k + 1, h, h1, h2 => by
    simp only [List.take_succ_cons, List.all_cons, Bool.and_eq_true] at h1
    have h2' : p (l.getD k d) = false := by simpa using h2
    obtain ⟨a, b⟩ := tw_bad (by simpa using h) h1.2 h2'
    simp [h1.1, a, b]
theorem pr_row {s : List UInt8} (h : prShort s = false) (h1 : cfgHas cfgTo (prW s 0) = true) (h2 : prNowB s = true) {k : Nat} (hk : k < (prRows s).length) (ha : ((prRows s).take k).all evB = true) (hb : evB ((prRows s).getD k []) = false) : prOk s = false ∧ prN s = (k : Int) + 3 := by
  obtain ⟨a, b⟩ := tw_bad hk ha hb
  have e : prOk s = false := by simp [prOk, h, h1, h2, b]
  refine ⟨e, ?_⟩
  rw [prN, if_neg (by rw [h]; decide), if_neg (by rw [h1]; decide), if_neg (by rw [h2]; decide), if_neg (by rw [e]; decide), a]
theorem pr_yes {s : List UInt8} (h : prShort s = false) (h1 : cfgHas cfgTo (prW s 0) = true) (h2 : prNowB s = true) (ha : (prRows s).all evB = true) : prOk s = true ∧ prN s = (prL s).length ∧ prE s = 0 ∧ prNm s = cfgRN (prW s 0) ∧ prAu s = cfgRA (prW s 0) ∧ (∀ i, prI s i = cfgRI (prW s 0) i) ∧ prNow s = prNowN s ∧ prEvs s = (prRows s).map evS := by
  have e : prOk s = true := by simp [prOk, h, h1, h2, ha]
  simp [prNm, prAu, prI, prNow, prEvs, prE, prN, e, h, h1, h2]
def evz : AV := .agg [.int .i64 0, .int .i64 0, .int .i64 0, .int .i64 0, .str []]
def scz : AV := .agg [.str [], .str [], .int .i64 0, .int .i64 0, .int .i64 0, .int .i64 0, .int .i64 0, .int .i64 0, .int .i64 0, .int .i64 0, .int .i64 0, .int .i64 0, .int .i64 0, .int .i64 0, .int .i64 0, .int .i64 0, .int .i64 0, .int .i64 0, .int .i64 0, .nils]
def scA (w : List UInt8) (now : Int) (v : AV) : AV := .agg [.str (cfgRN w), .str (cfgRA w), .int .i64 (cfgRI w 0), .int .i64 (cfgRI w 1), .int .i64 (cfgRI w 2), .int .i64 (cfgRI w 3), .int .i64 (cfgRI w 4), .int .i64 (cfgRI w 5), .int .i64 (cfgRI w 6), .int .i64 (cfgRI w 7), .int .i64 (cfgRI w 8), .int .i64 (cfgRI w 9), .int .i64 (cfgRI w 10), .int .i64 (cfgRI w 11), .int .i64 (cfgRI w 12), .int .i64 (cfgRI w 13), .int .i64 (cfgRI w 14), .int .i64 (cfgRI w 15), .int .i64 now, v]
section
variable {P : Program} {C : Tbl} {wr : Bool} {D : Nat → List Nat} {U : Nat → Option CutS} {m : Nat} {st : St} {Q : Ex → St → Prop} {b : Code}
theorem VN_inv {X : Type} (emb : X → St) (I : X → Prop) (μ : X → Nat) (x0 : X) (hw : WeakE m st (emb x0)) (hI : I x0) (h : ∀ x, I x → @V P C wr m (emb x) ⟨D⟩ ⟨U⟩ ⟨b⟩ ⟨kinv m emb I μ x Q⟩) : @VN P C wr m st 0 ⟨D⟩ ⟨U⟩ ⟨b⟩ ⟨Q⟩ := by
  refine ⟨X, emb, I, μ, x0, hw.weak, hI, fun x hx => W_mono _ _ _ _ (fun e s hs => ?_) (h x hx)⟩
  cases e with
  | normal => obtain ⟨x', h1, h2, h3⟩ := hs; exact ⟨x', h1.weak, h2, h3⟩
  | exit i => exact hs
  | ret => exact hs
end
theorem rows_snoc (l : List (List UInt8)) {k : Nat} (h : k < l.length) : (l.take (k + 1)).map (fun r => enc_ev (evS r)) = (l.take k).map (fun r => enc_ev (evS r)) ++ [enc_ev (evS (l.getD k []))] := by
  rw [take_succ_getD [] h, List.map_append]; rfl
theorem rows_all (l : List (List UInt8)) {k : Nat} (h : k < l.length) (ha : (l.take k).all evB = true) (hb : evB (l.getD k []) = true) : (l.take (k + 1)).all evB = true := by
  rw [take_succ_getD [] h, List.all_append, ha, List.all_cons, hb]; rfl
theorem row_len (s : List UInt8) (k : Nat) : ((prRows s).getD k []).length ≤ s.length := by
  have h : (prRows s).getD k [] = prW s (k + 2) := by
    rw [prRows, prW, List.getD_eq_getElem?_getD, List.getD_eq_getElem?_getD, List.getElem?_drop, Nat.add_comm]
  rw [h]; exact prW_len s _
end Go.Mdl
end
section
set_option linter.unusedVariables false
set_option linter.unusedSimpArgs false
namespace Go.Proofs.Tryd.Scr
open Go Go.Abs Go.Proofs Go.Mdl
def T_specPlain : Tbl := fun g E args => nilT g E args
theorem T_specPlain_ok : TblOK Tryd.prog T_specPlain := nilT_ok
set_option maxRecDepth 100000 in
set_option maxHeartbeats 4000000 in
theorem specPlain (r : Int) : SpecE Tryd.prog 37 [] [.int .i32 r] [] (.bool (plnI r)) := by
  refine specF0 (C := T_specPlain) (wr := false) (D := fun _ => []) (U := fun _ => none) (res := [.bool (plnI r)]) Tryd.Ty.mixed T_specPlain_ok Tryd.func37 (nA := 1) (by decide +kernel) rfl (fun _ => rfl) ?_
  simp only [Tryd.f37, bodyOf, rlOf]
  rw [W_V]
  simp (config := {maxSteps := 2000000}) only [T_specPlain, go_sem, seval]
  (try simp (config := {maxSteps := 2000000}) only [gimp, impB, isT, go_sem, seval])
  rfl
def tb_specPlain : List Blk → List AV → Option (List Blk × AV × Prop)
  | [], [.int .i32 r] => some ([], .bool (plnI r), True)
  | _, _ => none
theorem tb_specPlain_ok : ∀ E args E' res p, tb_specPlain E args = some (E', res, p) → p → SpecE Tryd.prog 37 E args E' res := by
  intro E args E' res p h hp
  unfold tb_specPlain at h
  split at h
  · simp only [Option.some.injEq, Prod.mk.injEq] at h
    obtain ⟨rfl, rfl, rfl⟩ := h
    exact (specPlain _)
  · cases h
def T_specPut : Tbl := fun g E args => (addT (addT nilT 36 Go.Proofs.Tryd.Dig.tb_specHexText) 34 Go.Proofs.Tryd.Bld.tb_ws) g E args
theorem T_specPut_ok : TblOK Tryd.prog T_specPut := (addT_ok (addT_ok nilT_ok (by decide +kernel) Go.Proofs.Tryd.Dig.tb_specHexText_ok) (by decide +kernel) Go.Proofs.Tryd.Bld.tb_ws_ok)
set_option maxRecDepth 100000 in
set_option maxHeartbeats 4000000 in
theorem specPut (s t : List UInt8) (hs : s.length + 3 * t.length ≤ 90000000) : SpecE Tryd.prog 35 [.cells 2 false (.iface 56 (.agg [.nilp, .nils])) [.agg [.ptr 0 0 0 1, .ref 1 0 (s).length (s).length]], .cells 1 false (.iface 5 (.int .u8 0)) ((s).map byteAV)] [.str t, .ptr 0 0 0 1] [.cells 2 false (.iface 56 (.agg [.nilp, .nils])) [.agg [.ptr 0 0 0 1, .ref 1 0 (s ++ t.flatMap escQ).length (s ++ t.flatMap escQ).length]], .cells 1 false (.iface 5 (.int .u8 0)) ((s ++ t.flatMap escQ).map byteAV)] (.tuple []) := by
  refine specFE (C := T_specPut) (wr := false) (D := fun _ => []) (U := fun _ => none) (E := [.cells 2 false (.iface 56 (.agg [.nilp, .nils])) [.agg [.ptr 0 0 0 1, .ref 1 0 (s).length (s).length]], .cells 1 false (.iface 5 (.int .u8 0)) ((s).map byteAV)]) (E' := [.cells 2 false (.iface 56 (.agg [.nilp, .nils])) [.agg [.ptr 0 0 0 1, .ref 1 0 (s ++ t.flatMap escQ).length (s ++ t.flatMap escQ).length]], .cells 1 false (.iface 5 (.int .u8 0)) ((s ++ t.flatMap escQ).map byteAV)]) (res := []) [] Tryd.Ty.mixed T_specPut_ok Tryd.func35 (args := [.str t, .ptr 0 0 0 1]) (nE := 2) (nA := 2) (by decide +kernel) rfl rfl ?_
  simp only [Tryd.f35, bodyOf, rlOf]
  rw [W_V]
  simp (config := {maxSteps := 2000000}) only [T_specPut, Go.Proofs.Tryd.Dig.tb_specHexText, Go.Proofs.Tryd.Bld.tb_ws, go_sem, seval]
  (try simp (config := {maxSteps := 2000000}) only [gimp, impB, isT, go_sem, seval])
  refine VL_inv (X := Nat) (fun x => ⟨[(0, .str t), (1, .ptr 0 0 0 1), (6, .int .i64 t.length), (7, .int .i64 x)], [(0, .cells 2 false (.iface 56 (.agg [.nilp, .nils])) [.agg [.ptr 0 0 0 1, .ref 1 0 (s ++ (t.take x).flatMap escQ).length (s ++ (t.take x).flatMap escQ).length]]), (1, .cells 1 false (.iface 5 (.int .u8 0)) ((s ++ (t.take x).flatMap escQ).map byteAV))]⟩)
    (fun x => x ≤ t.length) (fun x => t.length - x) 0 ?_ ?_ ?_
  · simp only [T_specPut, Go.Proofs.Tryd.Dig.tb_specHexText, Go.Proofs.Tryd.Bld.tb_ws, go_sem, seval]
    try rfl
  · exact Nat.zero_le _
  rintro x hx
  simp (config := {maxSteps := 2000000}) only [T_specPut, Go.Proofs.Tryd.Dig.tb_specHexText, Go.Proofs.Tryd.Bld.tb_ws, go_sem, seval]
  (try simp (config := {maxSteps := 2000000}) only [gimp, impB, isT, go_sem, seval])
  obtain ⟨g1, g2⟩ := hexS_two (t.getD x 0)
  have hb : (t.getD x 0).toNat < 256 := (t.getD x 0).toNat_lt
  have hl := esc_flat_len (t.take x)
  have htl : (t.take x).length = x := by rw [List.length_take]; omega
  have hst : x < t.length → (t.take x).flatMap escQ ++ 92 :: hex2 (t.getD x 0) = (t.take (x + 1)).flatMap escQ := fun h => by
    rw [take_succ_getD 0 h, List.flatMap_append]; simp [escQ]
  rw [g1, g2]
  have h2 : (hex2 (t.getD x 0)).length = 2 := rfl
  refine ⟨fun hlt => ?_, fun hge => ?_⟩
  · rw [hst (by omega)]
    refine ⟨by omega, by omega, by omega, by omega, by omega, by omega, ⟨by rw [List.length_append]; omega, by omega⟩, by omega, x + 1, ⟨by omega, ⟨rfl, rfl⟩, rfl, rfl⟩, by omega, by omega⟩
  · rw [List.take_of_length_le (by omega)]
    exact ⟨⟨rfl, rfl⟩, rfl, rfl⟩
def tb_put : List Blk → List AV → Option (List Blk × AV × Prop)
  | [.cells 2 false d [.agg [.ptr 0 0 0 1, .ref 1 0 n m]], .cells 1 false d2 c], [.str t, .ptr 0 0 0 1] => some ([.cells 2 false d [.agg [.ptr 0 0 0 1, .ref 1 0 (c.map toByte ++ t.flatMap escQ).length (c.map toByte ++ t.flatMap escQ).length]], .cells 1 false d2 ((c.map toByte ++ t.flatMap escQ).map byteAV)], .tuple [],
      d = .iface 56 (.agg [.nilp, .nils]) ∧ d2 = .iface 5 (.int .u8 0) ∧ (c.map toByte).map byteAV = c ∧ n = c.length ∧ m = c.length ∧ c.length + 3 * t.length ≤ 90000000)
  | _, _ => none
theorem tb_put_ok : ∀ E args E' res q, tb_put E args = some (E', res, q) → q → SpecE Tryd.prog 35 E args E' res := by
  intro E args E' res q h hq
  unfold tb_put at h
  split at h
  · rename_i d n m d2 c t
    simp only [Option.some.injEq, Prod.mk.injEq] at h
    obtain ⟨rfl, rfl, rfl⟩ := h
    obtain ⟨rfl, rfl, h1, rfl, rfl, h2⟩ := hq
    have := specPut (c.map toByte) t (by rw [List.length_map]; exact h2)
    rw [h1] at this
    simp only [List.length_map] at this
    exact this
  · cases h
def T_specQuote : Tbl := fun g E args => (addT (addT (addT (addT (addT nilT 37 Go.Proofs.Tryd.Scr.tb_specPlain) 35 Go.Proofs.Tryd.Scr.tb_put) 34 Go.Proofs.Tryd.Bld.tb_ws) 38 Go.Proofs.Tryd.Bld.tb_wr) 39 Go.Proofs.Tryd.Bld.tb_bstr) g E args
theorem T_specQuote_ok : TblOK Tryd.prog T_specQuote := (addT_ok (addT_ok (addT_ok (addT_ok (addT_ok nilT_ok (by decide +kernel) Go.Proofs.Tryd.Scr.tb_specPlain_ok) (by decide +kernel) Go.Proofs.Tryd.Scr.tb_put_ok) (by decide +kernel) Go.Proofs.Tryd.Bld.tb_ws_ok) (by decide +kernel) Go.Proofs.Tryd.Bld.tb_wr_ok) (by decide +kernel) Go.Proofs.Tryd.Bld.tb_bstr_ok)
set_option maxRecDepth 100000 in
set_option maxHeartbeats 4000000 in
theorem specQuote (s : List UInt8) (hs : s.length ≤ 10000000) : SpecE Tryd.prog 15 [] [.str s] [] (.str (qtdS s)) := by
  refine specF0 (C := T_specQuote) (wr := false) (D := fun _ => []) (U := fun _ => none) (res := [.str (qtdS s)]) Tryd.Ty.mixed T_specQuote_ok Tryd.func15 (nA := 1) (by decide +kernel) rfl (fun _ => rfl) ?_
  simp only [Tryd.f15, bodyOf, rlOf]
  rw [W_V]
  simp (config := {maxSteps := 2000000}) only [T_specQuote, Go.Proofs.Tryd.Scr.tb_specPlain, Go.Proofs.Tryd.Scr.tb_put, Go.Proofs.Tryd.Bld.tb_ws, Go.Proofs.Tryd.Bld.tb_wr, Go.Proofs.Tryd.Bld.tb_bstr, go_sem, seval]
  (try simp (config := {maxSteps := 2000000}) only [gimp, impB, isT, go_sem, seval])
  refine VL_inv (X := Nat × Nat) (fun y => ⟨[(0, .str s), (3, .ptr 64 0 0 1), (4, .clo 35 0 [.ptr 64 0 0 1]), (5, .int .i64 y.1), (11, .it 192)], [(64, .cells 2 false (.iface 56 (.agg [.nilp, .nils])) [.agg [.ptr 64 0 0 1, .ref 144 0 (34 :: (s.take y.1).flatMap quoB).length (34 :: (s.take y.1).flatMap quoB).length]]), (144, .cells 1 false (.iface 5 (.int .u8 0)) ((34 :: (s.take y.1).flatMap quoB).map byteAV)), (192, .iter s y.2)]⟩)
    (fun y => y.1 ≤ y.2 ∧ y.2 ≤ s.length ∧ ∀ c ∈ (s.take y.2).drop y.1, plnB c = false) (fun y => s.length - y.2) (0, 0) ?_ ?_ ?_
  · simp only [T_specQuote, Go.Proofs.Tryd.Scr.tb_specPlain, Go.Proofs.Tryd.Scr.tb_put, Go.Proofs.Tryd.Bld.tb_ws, Go.Proofs.Tryd.Bld.tb_wr, Go.Proofs.Tryd.Bld.tb_bstr, go_sem, seval]
    try rfl
  · exact ⟨Nat.le_refl _, Nat.zero_le _, by simp⟩
  rintro ⟨fr, i⟩ ⟨i1, i2, i3⟩
  simp only at i1 i2 i3
  simp (config := {maxSteps := 2000000}) only [T_specQuote, Go.Proofs.Tryd.Scr.tb_specPlain, Go.Proofs.Tryd.Scr.tb_put, Go.Proofs.Tryd.Bld.tb_ws, Go.Proofs.Tryd.Bld.tb_wr, Go.Proofs.Tryd.Bld.tb_bstr, go_sem, seval]
  (try simp (config := {maxSteps := 2000000}) only [gimp, impB, isT, go_sem, seval])
  have q1 := quo_flat_len (s.take fr)
  have q2 : (s.take fr).length = fr := by rw [List.length_take]; omega
  have q3 := esc_flat_len ((s.take i).drop fr)
  have q4 : ((s.take i).drop fr).length = i - fr := by rw [List.length_drop, List.length_take]; omega
  have q5 := esc_flat_len (s.drop fr)
  have q6 : (s.drop fr).length = s.length - fr := List.length_drop ..
  have e1 : (s.take fr).flatMap quoB ++ ((s.take i).drop fr).flatMap escQ = (s.take i).flatMap quoB := by
    rw [← quo_high i3, ← List.flatMap_append]
    congr 1
    have := List.take_append_drop fr (s.take i)
    rw [List.take_take, Nat.min_eq_left i1] at this
    exact this
  refine ⟨fun hlt => ⟨hlt, hlt, fun hp => ?_, fun hp => ?_⟩, fun hge => ?_⟩
  · obtain ⟨p1, p2, p3, p4⟩ := plain_rune hlt hp
    have e2 : (s.take fr).flatMap quoB ++ (((s.take i).drop fr).flatMap escQ ++ [UInt8.ofNat (runeAt s i).1.toNat]) = (s.take (i + 1)).flatMap quoB := by
      rw [← List.append_assoc, e1, take_succ_getD 0 hlt, List.flatMap_append, p3]
      generalize s.getD i 0 = c at *
      simp [quoB, p2]
    rw [e2, p3, p4, if_pos hlt]
    refine ⟨by omega, by omega, ⟨by rw [List.length_append]; omega, by omega, by omega⟩, by omega, (i + 1, i + 1), ⟨by simp, rfl, rfl, rfl⟩, ⟨Nat.le_refl _, by simp only; omega, ?_⟩, by simp only; omega⟩
    simp only
    rw [List.drop_eq_nil_of_le (by rw [List.length_take]; omega)]
    simp
  · obtain ⟨p1, p2, p3⟩ := rune_pos hlt
    rw [if_pos hlt]
    refine ⟨(fr, i + (runeAt s i).2), ⟨rfl, rfl, rfl, rfl⟩, ⟨by simp only; omega, p3, fun c hc => ?_⟩, by simp only; omega⟩
    simp only at hc
    have e3 : (s.take (i + (runeAt s i).2)).drop fr = (s.take i).drop fr ++ (s.take (i + (runeAt s i).2)).drop i := by
      have h1 := List.take_append_drop i (s.take (i + (runeAt s i).2))
      rw [List.take_take, Nat.min_eq_left (by omega)] at h1
      conv => lhs; rw [← h1]
      rw [List.drop_append_of_le_length (by rw [List.length_take]; omega)]
    rw [e3] at hc
    rcases List.mem_append.1 hc with hc | hc
    · exact i3 c hc
    · exact plain_none hlt hp c hc
  · have e0 : i = s.length := by omega
    subst e0
    rw [List.take_length] at i3
    have e4 : (s.take fr).flatMap quoB ++ ((s.drop fr).flatMap escQ ++ [34]) = s.flatMap quoB ++ [34] := by
      rw [← List.append_assoc, ← quo_high i3, ← List.flatMap_append, List.take_append_drop]
    have q7 := quo_flat_len s
    rw [e4]
    refine ⟨by omega, by omega, by rw [List.length_append]; omega, ⟨by simp only [List.length_append, List.length_singleton]; omega, by omega⟩, rfl⟩
def tb_specQuote : List Blk → List AV → Option (List Blk × AV × Prop)
  | [], [.str s] => some ([], .str (qtdS s), (s.length ≤ 10000000))
  | _, _ => none
theorem tb_specQuote_ok : ∀ E args E' res p, tb_specQuote E args = some (E', res, p) → p → SpecE Tryd.prog 15 E args E' res := by
  intro E args E' res p h hp
  unfold tb_specQuote at h
  split at h
  · simp only [Option.some.injEq, Prod.mk.injEq] at h
    obtain ⟨rfl, rfl, rfl⟩ := h
    exact (specQuote _ hp)
  · cases h
def T_specUnquote : Tbl := fun g E args => (addT (addT (addT (addT nilT 30 Go.Proofs.Tryd.Lib.tb_specCutPrefix) 31 Go.Proofs.Tryd.Lib.tb_specCutSuffix) 32 Go.Proofs.Tryd.Dig.tb_specHex) 15 Go.Proofs.Tryd.Scr.tb_specQuote) g E args
theorem T_specUnquote_ok : TblOK Tryd.prog T_specUnquote := (addT_ok (addT_ok (addT_ok (addT_ok nilT_ok (by decide +kernel) Go.Proofs.Tryd.Lib.tb_specCutPrefix_ok) (by decide +kernel) Go.Proofs.Tryd.Lib.tb_specCutSuffix_ok) (by decide +kernel) Go.Proofs.Tryd.Dig.tb_specHex_ok) (by decide +kernel) Go.Proofs.Tryd.Scr.tb_specQuote_ok)
set_option maxRecDepth 100000 in
set_option maxHeartbeats 4000000 in
theorem specUnquote (s : List UInt8) (hs : s.length ≤ 3000000) : SpecE Tryd.prog 13 [] [.str s] [] (.tuple [.str (unqS s), .bool (unqB s)]) := by
  refine specF0 (C := T_specUnquote) (wr := false) (D := fun _ => []) (U := fun _ => none) (res := [.str (unqS s), .bool (unqB s)]) Tryd.Ty.mixed T_specUnquote_ok Tryd.func13 (nA := 1) (by decide +kernel) rfl (fun _ => rfl) ?_
  simp only [Tryd.f13, bodyOf, rlOf]
  rw [W_V]
  simp (config := {maxSteps := 2000000}) only [T_specUnquote, Go.Proofs.Tryd.Lib.tb_specCutPrefix, Go.Proofs.Tryd.Lib.tb_specCutSuffix, Go.Proofs.Tryd.Dig.tb_specHex, Go.Proofs.Tryd.Scr.tb_specQuote, go_sem, seval]
  (try simp (config := {maxSteps := 2000000}) only [gimp, impB, isT, go_sem, seval])
  have hmx : (3000000 : Nat) ≤ maxLen := by decide
  have h1 := trimPrefix_len s [34]
  refine ⟨by omega, ?_⟩
  have h2 := inG_len s
  have h3 : ∀ t, s = qtdS t → inG s = t.flatMap quoB ∧ okG s = true ∧ endG s = true := fun t ht => by subst ht; exact inG_quote t
  rw [show Lib.trimSuffix (Lib.trimPrefix s [34]) [34] = inG s from rfl, show Lib.hasPrefix s [34] = okG s from rfl, show Lib.hasSuffix (Lib.trimPrefix s [34]) [34] = endG s from rfl]
  generalize inG s = u at *
  generalize okG s = o at *
  generalize endG s = e at *
  refine VL_inv (X := Nat × List UInt8) (fun y => ⟨[(0, .str s), (4, .str u), (5, .bool o), (6, .bool e), (7, .ref 960 0 y.2.length y.2.length), (8, .int .i64 y.1)], [(960, .cells 1 false (.int .u8 0) (y.2.map byteAV))]⟩)
    (fun y => y.1 ≤ u.length + 2 ∧ y.2.length ≤ y.1 ∧ UnqI s u y.1 y.2) (fun y => u.length + 2 - y.1) (0, []) ?_ ?_ ?_
  · simp only [T_specUnquote, Go.Proofs.Tryd.Lib.tb_specCutPrefix, Go.Proofs.Tryd.Lib.tb_specCutSuffix, Go.Proofs.Tryd.Dig.tb_specHex, Go.Proofs.Tryd.Scr.tb_specQuote, go_sem, seval]
    try rfl
  · exact ⟨Nat.zero_le _, Nat.le_refl _, unqI_zero s u⟩
  rintro ⟨i, out⟩ ⟨i1, i2, i3⟩
  simp only at i1 i2 i3
  simp (config := {maxSteps := 2000000}) only [T_specUnquote, Go.Proofs.Tryd.Lib.tb_specCutPrefix, Go.Proofs.Tryd.Lib.tb_specCutSuffix, Go.Proofs.Tryd.Dig.tb_specHex, Go.Proofs.Tryd.Scr.tb_specQuote, go_sem, seval]
  (try simp (config := {maxSteps := 2000000}) only [gimp, impB, isT, go_sem, seval])
  have hq : ∀ t, s = qtdS t → u = t.flatMap quoB := fun t ht => (h3 t ht).1
  refine ⟨fun hlt => ?_, fun hge => ?_⟩
  · have hi : i < u.length := by omega
    rw [cut_pair hi]
    refine ⟨by omega, fun hc => ⟨by omega, by omega, by omega, fun hb => ?_, fun hg => ?_⟩, fun hc => ?_⟩
    · have := unqI_bad i3 hi hc hq hb
      exact ⟨(unq_no this).symm, this.symm⟩
    · obtain ⟨n1, n2⟩ := numVal_rngS 16 255 ((u.take (i + 3)).drop (i + 1)) (.inr rfl)
      have n3 : numVal 16 255 ((u.take (i + 3)).drop (i + 1)) ≤ 255 := by rcases n2 with n2 | n2 <;> omega
      have hv : ((UInt8.ofNat (numVal 16 255 ((u.take (i + 3)).drop (i + 1))).toNat).toNat : Int) = numVal 16 255 ((u.take (i + 3)).drop (i + 1)) := by
        rw [UInt8.toNat_ofNat']; omega
      have hs2 := unqI_good i3 hi hc hv
      generalize numVal 16 255 ((u.take (i + 3)).drop (i + 1)) = n at *
      refine ⟨⟨n1, n3⟩, by omega, by omega, by omega, (i + 3, out ++ [UInt8.ofNat n.toNat]), ⟨⟨by simp, by simp only; omega⟩, ?_⟩, ⟨by simp only; omega, by simp only [List.length_append, List.length_singleton]; omega, hs2⟩, by simp only; omega⟩
      simp only [List.map_append, List.map_cons, List.map_nil, byteAV, hv]
    · refine ⟨by omega, by omega, (i + 1, out ++ [u.getD i 0]), ⟨⟨by simp, by simp only; omega⟩, by rw [List.map_append]; rfl⟩, ⟨by simp only; omega, by simp only [List.length_append, List.length_singleton]; omega, unqI_plain i3 hi hc⟩, by simp only; omega⟩
  · rw [List.take_length]
    have he := unqI_end i3 (by omega) hq
    refine ⟨fun _ _ => by omega, fun _ _ hqq => ?_, fun hf => ?_⟩
    · obtain ⟨y1, y2⟩ := unq_yes hqq
      exact ⟨y1.symm, y2.symm⟩
    · have : unqB s = false := by
        rw [← Bool.not_eq_true, unqB_iff]
        rintro ⟨t, ht⟩
        obtain ⟨_, a2, a3⟩ := h3 t ht
        rw [a2, a3, he t ht, decide_eq_true ht.symm] at hf
        cases hf
      exact ⟨(unq_no this).symm, this.symm⟩
def tb_specUnquote : List Blk → List AV → Option (List Blk × AV × Prop)
  | [], [.str s] => some ([], .tuple [.str (unqS s), .bool (unqB s)], (s.length ≤ 3000000))
  | _, _ => none
theorem tb_specUnquote_ok : ∀ E args E' res p, tb_specUnquote E args = some (E', res, p) → p → SpecE Tryd.prog 13 E args E' res := by
  intro E args E' res p h hp
  unfold tb_specUnquote at h
  split at h
  · simp only [Option.some.injEq, Prod.mk.injEq] at h
    obtain ⟨rfl, rfl, rfl⟩ := h
    exact (specUnquote _ hp)
  · cases h
end Go.Proofs.Tryd.Scr
end
section
set_option linter.unusedVariables false
set_option linter.unusedSimpArgs false
namespace Go.Proofs.Tryd.Act
open Go Go.Abs Go.Proofs Go.Mdl
def T_specWord : Tbl := fun g E args => nilT g E args
theorem T_specWord_ok : TblOK Tryd.prog T_specWord := nilT_ok
set_option maxRecDepth 100000 in
set_option maxHeartbeats 4000000 in
theorem specWord (op : Int) : SpecE Tryd.prog 83 [] [.int .i64 op] [] (.str (wordS op)) := by
  refine specF0 (C := T_specWord) (wr := false) (D := fun _ => []) (U := fun _ => none) (res := [.str (wordS op)]) Tryd.Ty.mixed T_specWord_ok Tryd.func83 (nA := 1) (by decide +kernel) rfl (fun _ => rfl) ?_
  simp only [Tryd.f83, bodyOf, rlOf]
  rw [W_V]
  simp (config := {maxSteps := 2000000}) only [T_specWord, go_sem, seval]
  (try simp (config := {maxSteps := 2000000}) only [gimp, impB, isT, go_sem, seval])
  refine ⟨fun h => (wordS_none (by omega)).symm, fun h1 h2 => ?_⟩
  rcases op_cases h1 (by omega) with rfl | rfl | rfl | rfl | rfl | rfl | rfl <;> exact ⟨by decide, by decide, trivial, rfl⟩
def tb_specWord : List Blk → List AV → Option (List Blk × AV × Prop)
  | [], [.int .i64 op] => some ([], .str (wordS op), True)
  | _, _ => none
theorem tb_specWord_ok : ∀ E args E' res p, tb_specWord E args = some (E', res, p) → p → SpecE Tryd.prog 83 E args E' res := by
  intro E args E' res p h hp
  unfold tb_specWord at h
  split at h
  · simp only [Option.some.injEq, Prod.mk.injEq] at h
    obtain ⟨rfl, rfl, rfl⟩ := h
    exact (specWord _)
  · cases h
def T_specWithin : Tbl := fun g E args => nilT g E args
theorem T_specWithin_ok : TblOK Tryd.prog T_specWithin := nilT_ok
set_option maxRecDepth 100000 in
set_option maxHeartbeats 4000000 in
theorem specWithin (op n : Int) : SpecE Tryd.prog 97 [] [.int .i64 op, .int .i64 n] [] (.bool (decide (0 ≤ n ∧ ((op = 4 ∨ op = 5) → n ≤ 1048576) ∧ (op = 6 → n ≤ 1073741824) ∧ (¬ (op = 4 ∨ op = 5 ∨ op = 6) → n ≤ 0)))) := by
  refine specF0 (C := T_specWithin) (wr := false) (D := fun _ => []) (U := fun _ => none) (res := [.bool (decide (0 ≤ n ∧ ((op = 4 ∨ op = 5) → n ≤ 1048576) ∧ (op = 6 → n ≤ 1073741824) ∧ (¬ (op = 4 ∨ op = 5 ∨ op = 6) → n ≤ 0)))]) Tryd.Ty.mixed T_specWithin_ok Tryd.func97 (nA := 2) (by decide +kernel) rfl (fun _ => rfl) ?_
  simp only [Tryd.f97, bodyOf, rlOf]
  rw [W_V]
  simp (config := {maxSteps := 2000000}) only [T_specWithin, go_sem, seval]
  (try simp (config := {maxSteps := 2000000}) only [gimp, impB, isT, go_sem, seval])
  (repeat' (first | refine And.intro ?_ ?_ | intro _)) <;> (rw [Bool.eq_iff_iff]; simp only [Bool.and_eq_true, Bool.or_eq_true, decide_eq_true_eq]; omega)
def tb_specWithin : List Blk → List AV → Option (List Blk × AV × Prop)
  | [], [.int .i64 op, .int .i64 n] => some ([], .bool (decide (0 ≤ n ∧ ((op = 4 ∨ op = 5) → n ≤ 1048576) ∧ (op = 6 → n ≤ 1073741824) ∧ (¬ (op = 4 ∨ op = 5 ∨ op = 6) → n ≤ 0))), True)
  | _, _ => none
theorem tb_specWithin_ok : ∀ E args E' res p, tb_specWithin E args = some (E', res, p) → p → SpecE Tryd.prog 97 E args E' res := by
  intro E args E' res p h hp
  unfold tb_specWithin at h
  split at h
  · simp only [Option.some.injEq, Prod.mk.injEq] at h
    obtain ⟨rfl, rfl, rfl⟩ := h
    exact (specWithin _ _)
  · cases h
def T_specPlaced : Tbl := fun g E args => nilT g E args
theorem T_specPlaced_ok : TblOK Tryd.prog T_specPlaced := nilT_ok
set_option maxRecDepth 100000 in
set_option maxHeartbeats 4000000 in
theorem specPlaced (op cl og : Int) : SpecE Tryd.prog 96 [] [.int .i64 op, .agg [.int .i64 cl, .int .i64 og]] [] (.bool (decide ((op = 6 → cl = 0 ∧ og = 0) ∧ (¬ op = 6 → 0 ≤ cl ∧ cl < 16 ∧ 0 ≤ og ∧ og ≤ 1000 ∧ ((op = 1 ∨ op = 7) → og = 0))))) := by
  refine specF0 (C := T_specPlaced) (wr := false) (D := fun _ => []) (U := fun _ => none) (res := [.bool (decide ((op = 6 → cl = 0 ∧ og = 0) ∧ (¬ op = 6 → 0 ≤ cl ∧ cl < 16 ∧ 0 ≤ og ∧ og ≤ 1000 ∧ ((op = 1 ∨ op = 7) → og = 0))))]) Tryd.Ty.mixed T_specPlaced_ok Tryd.func96 (nA := 2) (by decide +kernel) rfl (fun _ => rfl) ?_
  simp only [Tryd.f96, bodyOf, rlOf]
  rw [W_V]
  simp (config := {maxSteps := 2000000}) only [T_specPlaced, go_sem, seval]
  (try simp (config := {maxSteps := 2000000}) only [gimp, impB, isT, go_sem, seval])
  (repeat' (first | refine And.intro ?_ ?_ | intro _)) <;> (rw [Bool.eq_iff_iff]; simp only [Bool.and_eq_true, Bool.or_eq_true, decide_eq_true_eq]; omega)
def tb_specPlaced : List Blk → List AV → Option (List Blk × AV × Prop)
  | [], [.int .i64 op, .agg [.int .i64 cl, .int .i64 og]] => some ([], .bool (decide ((op = 6 → cl = 0 ∧ og = 0) ∧ (¬ op = 6 → 0 ≤ cl ∧ cl < 16 ∧ 0 ≤ og ∧ og ≤ 1000 ∧ ((op = 1 ∨ op = 7) → og = 0)))), True)
  | _, _ => none
theorem tb_specPlaced_ok : ∀ E args E' res p, tb_specPlaced E args = some (E', res, p) → p → SpecE Tryd.prog 96 E args E' res := by
  intro E args E' res p h hp
  unfold tb_specPlaced at h
  split at h
  · simp only [Option.some.injEq, Prod.mk.injEq] at h
    obtain ⟨rfl, rfl, rfl⟩ := h
    exact (specPlaced _ _ _)
  · cases h
def T_specRight : Tbl := fun g E args => (addT (addT (addT nilT 83 Go.Proofs.Tryd.Act.tb_specWord) 97 Go.Proofs.Tryd.Act.tb_specWithin) 96 Go.Proofs.Tryd.Act.tb_specPlaced) g E args
theorem T_specRight_ok : TblOK Tryd.prog T_specRight := (addT_ok (addT_ok (addT_ok nilT_ok (by decide +kernel) Go.Proofs.Tryd.Act.tb_specWord_ok) (by decide +kernel) Go.Proofs.Tryd.Act.tb_specWithin_ok) (by decide +kernel) Go.Proofs.Tryd.Act.tb_specPlaced_ok)
set_option maxRecDepth 100000 in
set_option maxHeartbeats 4000000 in
theorem specRight (op cl og n : Int) (t : List UInt8) : SpecE Tryd.prog 84 [] [.agg [.int .i64 op, .int .i64 cl, .int .i64 og, .int .i64 n, .str t]] [] (.bool (rightE ⟨op, cl, og, n, t⟩)) := by
  refine specF0 (C := T_specRight) (wr := false) (D := fun _ => []) (U := fun _ => none) (res := [.bool (rightE ⟨op, cl, og, n, t⟩)]) Tryd.Ty.mixed T_specRight_ok Tryd.func84 (nA := 1) (by decide +kernel) rfl (fun _ => rfl) ?_
  simp only [Tryd.f84, bodyOf, rlOf]
  rw [W_V]
  simp (config := {maxSteps := 2000000}) only [T_specRight, Go.Proofs.Tryd.Act.tb_specWord, Go.Proofs.Tryd.Act.tb_specWithin, Go.Proofs.Tryd.Act.tb_specPlaced, go_sem, seval]
  (try simp (config := {maxSteps := 2000000}) only [gimp, impB, isT, go_sem, seval])
  have ht : t = [] ↔ t.length = 0 := List.length_eq_zero_iff.symm
  refine ⟨fun h => ?_, fun h1 h2 h3 h4 h5 h6 h7 => ?_⟩
  · rw [wordS_iff] at h
    symm
    rw [← Bool.not_eq_true, rightE_iff]
    unfold RightP
    simp only
    omega
  · rw [wordS_iff] at h1
    rw [Bool.eq_iff_iff, rightE_iff]
    unfold RightP
    simp only [Bool.and_eq_true, Bool.or_eq_true, decide_eq_true_eq, ht]
    omega
def tb_specRight : List Blk → List AV → Option (List Blk × AV × Prop)
  | [], [.agg [.int .i64 op, .int .i64 cl, .int .i64 og, .int .i64 n, .str t]] => some ([], .bool (rightE ⟨op, cl, og, n, t⟩), True)
  | _, _ => none
theorem tb_specRight_ok : ∀ E args E' res p, tb_specRight E args = some (E', res, p) → p → SpecE Tryd.prog 84 E args E' res := by
  intro E args E' res p h hp
  unfold tb_specRight at h
  split at h
  · simp only [Option.some.injEq, Prod.mk.injEq] at h
    obtain ⟨rfl, rfl, rfl⟩ := h
    exact (specRight _ _ _ _ _)
  · cases h
def T_specOf1 : Tbl := fun g E args => (addT nilT 84 Go.Proofs.Tryd.Act.tb_specRight) g E args
theorem T_specOf1_ok : TblOK Tryd.prog T_specOf1 := (addT_ok nilT_ok (by decide +kernel) Go.Proofs.Tryd.Act.tb_specRight_ok)
set_option maxRecDepth 100000 in
set_option maxHeartbeats 4000000 in
theorem specOf1 (cl og n : Int) (t : List UInt8) (h : rightE ⟨1, cl, og, n, t⟩ = true) : SpecE Tryd.prog 98 [] [.agg [.int .i64 1, .int .i64 cl, .int .i64 og, .int .i64 n, .str t]] [] (.tuple [.iface 152 (.agg [.int .i64 cl]), .bool true]) := by
  refine specF0 (C := T_specOf1) (wr := false) (D := fun _ => []) (U := fun _ => none) (res := [.iface 152 (.agg [.int .i64 cl]), .bool true]) Tryd.Ty.mixed T_specOf1_ok Tryd.func98 (nA := 1) (by decide +kernel) rfl (fun _ => rfl) ?_
  simp only [Tryd.f98, bodyOf, rlOf]
  rw [W_V]
  simp (config := {maxSteps := 2000000}) only [T_specOf1, Go.Proofs.Tryd.Act.tb_specRight, go_sem, seval, h]
  (try simp (config := {maxSteps := 2000000}) only [gimp, impB, isT, go_sem, seval])
def T_specOf2 : Tbl := fun g E args => (addT nilT 84 Go.Proofs.Tryd.Act.tb_specRight) g E args
theorem T_specOf2_ok : TblOK Tryd.prog T_specOf2 := (addT_ok nilT_ok (by decide +kernel) Go.Proofs.Tryd.Act.tb_specRight_ok)
set_option maxRecDepth 100000 in
set_option maxHeartbeats 4000000 in
theorem specOf2 (cl og n : Int) (t : List UInt8) (h : rightE ⟨2, cl, og, n, t⟩ = true) : SpecE Tryd.prog 98 [] [.agg [.int .i64 2, .int .i64 cl, .int .i64 og, .int .i64 n, .str t]] [] (.tuple [.iface 140 (.agg [.int .i64 cl, .int .i64 og, .str t]), .bool true]) := by
  refine specF0 (C := T_specOf2) (wr := false) (D := fun _ => []) (U := fun _ => none) (res := [.iface 140 (.agg [.int .i64 cl, .int .i64 og, .str t]), .bool true]) Tryd.Ty.mixed T_specOf2_ok Tryd.func98 (nA := 1) (by decide +kernel) rfl (fun _ => rfl) ?_
  simp only [Tryd.f98, bodyOf, rlOf]
  rw [W_V]
  simp (config := {maxSteps := 2000000}) only [T_specOf2, Go.Proofs.Tryd.Act.tb_specRight, go_sem, seval, h]
  (try simp (config := {maxSteps := 2000000}) only [gimp, impB, isT, go_sem, seval])
def T_specOf3 : Tbl := fun g E args => (addT nilT 84 Go.Proofs.Tryd.Act.tb_specRight) g E args
theorem T_specOf3_ok : TblOK Tryd.prog T_specOf3 := (addT_ok nilT_ok (by decide +kernel) Go.Proofs.Tryd.Act.tb_specRight_ok)
set_option maxRecDepth 100000 in
set_option maxHeartbeats 4000000 in
theorem specOf3 (cl og n : Int) (t : List UInt8) (h : rightE ⟨3, cl, og, n, t⟩ = true) : SpecE Tryd.prog 98 [] [.agg [.int .i64 3, .int .i64 cl, .int .i64 og, .int .i64 n, .str t]] [] (.tuple [.iface 142 (.agg [.int .i64 cl, .int .i64 og]), .bool true]) := by
  refine specF0 (C := T_specOf3) (wr := false) (D := fun _ => []) (U := fun _ => none) (res := [.iface 142 (.agg [.int .i64 cl, .int .i64 og]), .bool true]) Tryd.Ty.mixed T_specOf3_ok Tryd.func98 (nA := 1) (by decide +kernel) rfl (fun _ => rfl) ?_
  simp only [Tryd.f98, bodyOf, rlOf]
  rw [W_V]
  simp (config := {maxSteps := 2000000}) only [T_specOf3, Go.Proofs.Tryd.Act.tb_specRight, go_sem, seval, h]
  (try simp (config := {maxSteps := 2000000}) only [gimp, impB, isT, go_sem, seval])
def T_specOf4 : Tbl := fun g E args => (addT nilT 84 Go.Proofs.Tryd.Act.tb_specRight) g E args
theorem T_specOf4_ok : TblOK Tryd.prog T_specOf4 := (addT_ok nilT_ok (by decide +kernel) Go.Proofs.Tryd.Act.tb_specRight_ok)
set_option maxRecDepth 100000 in
set_option maxHeartbeats 4000000 in
theorem specOf4 (cl og n : Int) (t : List UInt8) (h : rightE ⟨4, cl, og, n, t⟩ = true) : SpecE Tryd.prog 98 [] [.agg [.int .i64 4, .int .i64 cl, .int .i64 og, .int .i64 n, .str t]] [] (.tuple [.iface 144 (.agg [.int .i64 cl, .int .i64 og, .int .i64 n]), .bool true]) := by
  refine specF0 (C := T_specOf4) (wr := false) (D := fun _ => []) (U := fun _ => none) (res := [.iface 144 (.agg [.int .i64 cl, .int .i64 og, .int .i64 n]), .bool true]) Tryd.Ty.mixed T_specOf4_ok Tryd.func98 (nA := 1) (by decide +kernel) rfl (fun _ => rfl) ?_
  simp only [Tryd.f98, bodyOf, rlOf]
  rw [W_V]
  simp (config := {maxSteps := 2000000}) only [T_specOf4, Go.Proofs.Tryd.Act.tb_specRight, go_sem, seval, h]
  (try simp (config := {maxSteps := 2000000}) only [gimp, impB, isT, go_sem, seval])
def T_specOf5 : Tbl := fun g E args => (addT nilT 84 Go.Proofs.Tryd.Act.tb_specRight) g E args
theorem T_specOf5_ok : TblOK Tryd.prog T_specOf5 := (addT_ok nilT_ok (by decide +kernel) Go.Proofs.Tryd.Act.tb_specRight_ok)
set_option maxRecDepth 100000 in
set_option maxHeartbeats 4000000 in
theorem specOf5 (cl og n : Int) (t : List UInt8) (h : rightE ⟨5, cl, og, n, t⟩ = true) : SpecE Tryd.prog 98 [] [.agg [.int .i64 5, .int .i64 cl, .int .i64 og, .int .i64 n, .str t]] [] (.tuple [.iface 145 (.agg [.int .i64 cl, .int .i64 og, .int .i64 n]), .bool true]) := by
  refine specF0 (C := T_specOf5) (wr := false) (D := fun _ => []) (U := fun _ => none) (res := [.iface 145 (.agg [.int .i64 cl, .int .i64 og, .int .i64 n]), .bool true]) Tryd.Ty.mixed T_specOf5_ok Tryd.func98 (nA := 1) (by decide +kernel) rfl (fun _ => rfl) ?_
  simp only [Tryd.f98, bodyOf, rlOf]
  rw [W_V]
  simp (config := {maxSteps := 2000000}) only [T_specOf5, Go.Proofs.Tryd.Act.tb_specRight, go_sem, seval, h]
  (try simp (config := {maxSteps := 2000000}) only [gimp, impB, isT, go_sem, seval])
def T_specOf6 : Tbl := fun g E args => (addT nilT 84 Go.Proofs.Tryd.Act.tb_specRight) g E args
theorem T_specOf6_ok : TblOK Tryd.prog T_specOf6 := (addT_ok nilT_ok (by decide +kernel) Go.Proofs.Tryd.Act.tb_specRight_ok)
set_option maxRecDepth 100000 in
set_option maxHeartbeats 4000000 in
theorem specOf6 (cl og n : Int) (t : List UInt8) (h : rightE ⟨6, cl, og, n, t⟩ = true) : SpecE Tryd.prog 98 [] [.agg [.int .i64 6, .int .i64 cl, .int .i64 og, .int .i64 n, .str t]] [] (.tuple [.iface 137 (.agg [.int .i64 n]), .bool true]) := by
  refine specF0 (C := T_specOf6) (wr := false) (D := fun _ => []) (U := fun _ => none) (res := [.iface 137 (.agg [.int .i64 n]), .bool true]) Tryd.Ty.mixed T_specOf6_ok Tryd.func98 (nA := 1) (by decide +kernel) rfl (fun _ => rfl) ?_
  simp only [Tryd.f98, bodyOf, rlOf]
  rw [W_V]
  simp (config := {maxSteps := 2000000}) only [T_specOf6, Go.Proofs.Tryd.Act.tb_specRight, go_sem, seval, h]
  (try simp (config := {maxSteps := 2000000}) only [gimp, impB, isT, go_sem, seval])
def T_specOf7 : Tbl := fun g E args => (addT nilT 84 Go.Proofs.Tryd.Act.tb_specRight) g E args
theorem T_specOf7_ok : TblOK Tryd.prog T_specOf7 := (addT_ok nilT_ok (by decide +kernel) Go.Proofs.Tryd.Act.tb_specRight_ok)
set_option maxRecDepth 100000 in
set_option maxHeartbeats 4000000 in
theorem specOf7 (cl og n : Int) (t : List UInt8) (h : rightE ⟨7, cl, og, n, t⟩ = true) : SpecE Tryd.prog 98 [] [.agg [.int .i64 7, .int .i64 cl, .int .i64 og, .int .i64 n, .str t]] [] (.tuple [.iface 153 (.agg [.int .i64 cl]), .bool true]) := by
  refine specF0 (C := T_specOf7) (wr := false) (D := fun _ => []) (U := fun _ => none) (res := [.iface 153 (.agg [.int .i64 cl]), .bool true]) Tryd.Ty.mixed T_specOf7_ok Tryd.func98 (nA := 1) (by decide +kernel) rfl (fun _ => rfl) ?_
  simp only [Tryd.f98, bodyOf, rlOf]
  rw [W_V]
  simp (config := {maxSteps := 2000000}) only [T_specOf7, Go.Proofs.Tryd.Act.tb_specRight, go_sem, seval, h]
  (try simp (config := {maxSteps := 2000000}) only [gimp, impB, isT, go_sem, seval])
def tb_of : List Blk → List AV → Option (List Blk × AV × Prop)
  | [], [.agg [.int .i64 1, .int .i64 cl, .int .i64 og, .int .i64 n, .str t]] => some ([], .tuple [.iface 152 (.agg [.int .i64 cl]), .bool true], rightE ⟨1, cl, og, n, t⟩ = true)
  | [], [.agg [.int .i64 2, .int .i64 cl, .int .i64 og, .int .i64 n, .str t]] => some ([], .tuple [.iface 140 (.agg [.int .i64 cl, .int .i64 og, .str t]), .bool true], rightE ⟨2, cl, og, n, t⟩ = true)
  | [], [.agg [.int .i64 3, .int .i64 cl, .int .i64 og, .int .i64 n, .str t]] => some ([], .tuple [.iface 142 (.agg [.int .i64 cl, .int .i64 og]), .bool true], rightE ⟨3, cl, og, n, t⟩ = true)
  | [], [.agg [.int .i64 4, .int .i64 cl, .int .i64 og, .int .i64 n, .str t]] => some ([], .tuple [.iface 144 (.agg [.int .i64 cl, .int .i64 og, .int .i64 n]), .bool true], rightE ⟨4, cl, og, n, t⟩ = true)
  | [], [.agg [.int .i64 5, .int .i64 cl, .int .i64 og, .int .i64 n, .str t]] => some ([], .tuple [.iface 145 (.agg [.int .i64 cl, .int .i64 og, .int .i64 n]), .bool true], rightE ⟨5, cl, og, n, t⟩ = true)
  | [], [.agg [.int .i64 6, .int .i64 cl, .int .i64 og, .int .i64 n, .str t]] => some ([], .tuple [.iface 137 (.agg [.int .i64 n]), .bool true], rightE ⟨6, cl, og, n, t⟩ = true)
  | [], [.agg [.int .i64 7, .int .i64 cl, .int .i64 og, .int .i64 n, .str t]] => some ([], .tuple [.iface 153 (.agg [.int .i64 cl]), .bool true], rightE ⟨7, cl, og, n, t⟩ = true)
  | _, _ => none
theorem tb_of_ok : ∀ E args E' res q, tb_of E args = some (E', res, q) → q → SpecE Tryd.prog 98 E args E' res := by
  intro E args E' res q h hq
  unfold tb_of at h
  split at h
  · simp only [Option.some.injEq, Prod.mk.injEq] at h
    obtain ⟨rfl, rfl, rfl⟩ := h
    exact specOf1 _ _ _ _ hq
  · simp only [Option.some.injEq, Prod.mk.injEq] at h
    obtain ⟨rfl, rfl, rfl⟩ := h
    exact specOf2 _ _ _ _ hq
  · simp only [Option.some.injEq, Prod.mk.injEq] at h
    obtain ⟨rfl, rfl, rfl⟩ := h
    exact specOf3 _ _ _ _ hq
  · simp only [Option.some.injEq, Prod.mk.injEq] at h
    obtain ⟨rfl, rfl, rfl⟩ := h
    exact specOf4 _ _ _ _ hq
  · simp only [Option.some.injEq, Prod.mk.injEq] at h
    obtain ⟨rfl, rfl, rfl⟩ := h
    exact specOf5 _ _ _ _ hq
  · simp only [Option.some.injEq, Prod.mk.injEq] at h
    obtain ⟨rfl, rfl, rfl⟩ := h
    exact specOf6 _ _ _ _ hq
  · simp only [Option.some.injEq, Prod.mk.injEq] at h
    obtain ⟨rfl, rfl, rfl⟩ := h
    exact specOf7 _ _ _ _ hq
  · cases h
end Go.Proofs.Tryd.Act
end
section
set_option linter.unusedVariables false
set_option linter.unusedSimpArgs false
namespace Go.Proofs.Tryd.Act
open Go Go.Abs Go.Proofs Go.Mdl
def T_specLine1 : Tbl := fun g E args => (addT (addT (addT (addT nilT 83 Go.Proofs.Tryd.Act.tb_specWord) 98 Go.Proofs.Tryd.Act.tb_of) 26 Go.Proofs.Tryd.Dig.tb_specText) 15 Go.Proofs.Tryd.Scr.tb_specQuote) g E args
theorem T_specLine1_ok : TblOK Tryd.prog T_specLine1 := (addT_ok (addT_ok (addT_ok (addT_ok nilT_ok (by decide +kernel) Go.Proofs.Tryd.Act.tb_specWord_ok) (by decide +kernel) Go.Proofs.Tryd.Act.tb_of_ok) (by decide +kernel) Go.Proofs.Tryd.Dig.tb_specText_ok) (by decide +kernel) Go.Proofs.Tryd.Scr.tb_specQuote_ok)
set_option maxRecDepth 100000 in
set_option maxHeartbeats 4000000 in
theorem specLine1 (cl og n : Int) (t : List UInt8) (h : rightE ⟨1, cl, og, n, t⟩ = true) : SpecE Tryd.prog 85 [] [.agg [.int .i64 1, .int .i64 cl, .int .i64 og, .int .i64 n, .str t]] [] (.str (evLine ⟨1, cl, og, n, t⟩)) := by
  refine specF0 (C := T_specLine1) (wr := false) (D := fun _ => []) (U := fun _ => none) (res := [.str (evLine ⟨1, cl, og, n, t⟩)]) Tryd.Ty.mixed T_specLine1_ok Tryd.func85 (nA := 1) (by decide +kernel) rfl (fun _ => rfl) ?_
  simp only [Tryd.f85, bodyOf, rlOf]
  rw [W_V]
  simp (config := {maxSteps := 2000000}) only [T_specLine1, Go.Proofs.Tryd.Act.tb_specWord, Go.Proofs.Tryd.Act.tb_of, Go.Proofs.Tryd.Dig.tb_specText, Go.Proofs.Tryd.Scr.tb_specQuote, go_sem, seval, wordS]
  (try simp (config := {maxSteps := 2000000}) only [gimp, impB, isT, go_sem, seval])
  have hr := (rightE_iff _).1 h
  unfold RightP at hr
  dsimp only at hr
  have l1 := textI_len cl
  have l2 := textI_len og
  have l3 := textI_len n
  have l4 := quote_len t
  refine ⟨h, ?_⟩
  (try simp only [List.length_append, List.length_cons, List.length_nil])
  and_intros <;> first | omega | (simp [evLine, wordS])
def T_specLine2 : Tbl := fun g E args => (addT (addT (addT (addT nilT 83 Go.Proofs.Tryd.Act.tb_specWord) 98 Go.Proofs.Tryd.Act.tb_of) 26 Go.Proofs.Tryd.Dig.tb_specText) 15 Go.Proofs.Tryd.Scr.tb_specQuote) g E args
theorem T_specLine2_ok : TblOK Tryd.prog T_specLine2 := (addT_ok (addT_ok (addT_ok (addT_ok nilT_ok (by decide +kernel) Go.Proofs.Tryd.Act.tb_specWord_ok) (by decide +kernel) Go.Proofs.Tryd.Act.tb_of_ok) (by decide +kernel) Go.Proofs.Tryd.Dig.tb_specText_ok) (by decide +kernel) Go.Proofs.Tryd.Scr.tb_specQuote_ok)
set_option maxRecDepth 100000 in
set_option maxHeartbeats 4000000 in
theorem specLine2 (cl og n : Int) (t : List UInt8) (h : rightE ⟨2, cl, og, n, t⟩ = true) : SpecE Tryd.prog 85 [] [.agg [.int .i64 2, .int .i64 cl, .int .i64 og, .int .i64 n, .str t]] [] (.str (evLine ⟨2, cl, og, n, t⟩)) := by
  refine specF0 (C := T_specLine2) (wr := false) (D := fun _ => []) (U := fun _ => none) (res := [.str (evLine ⟨2, cl, og, n, t⟩)]) Tryd.Ty.mixed T_specLine2_ok Tryd.func85 (nA := 1) (by decide +kernel) rfl (fun _ => rfl) ?_
  simp only [Tryd.f85, bodyOf, rlOf]
  rw [W_V]
  simp (config := {maxSteps := 2000000}) only [T_specLine2, Go.Proofs.Tryd.Act.tb_specWord, Go.Proofs.Tryd.Act.tb_of, Go.Proofs.Tryd.Dig.tb_specText, Go.Proofs.Tryd.Scr.tb_specQuote, go_sem, seval, wordS]
  (try simp (config := {maxSteps := 2000000}) only [gimp, impB, isT, go_sem, seval])
  have hr := (rightE_iff _).1 h
  unfold RightP at hr
  dsimp only at hr
  have l1 := textI_len cl
  have l2 := textI_len og
  have l3 := textI_len n
  have l4 := quote_len t
  refine ⟨h, ?_⟩
  (try simp only [List.length_append, List.length_cons, List.length_nil])
  and_intros <;> first | omega | (simp [evLine, wordS])
def T_specLine3 : Tbl := fun g E args => (addT (addT (addT (addT nilT 83 Go.Proofs.Tryd.Act.tb_specWord) 98 Go.Proofs.Tryd.Act.tb_of) 26 Go.Proofs.Tryd.Dig.tb_specText) 15 Go.Proofs.Tryd.Scr.tb_specQuote) g E args
theorem T_specLine3_ok : TblOK Tryd.prog T_specLine3 := (addT_ok (addT_ok (addT_ok (addT_ok nilT_ok (by decide +kernel) Go.Proofs.Tryd.Act.tb_specWord_ok) (by decide +kernel) Go.Proofs.Tryd.Act.tb_of_ok) (by decide +kernel) Go.Proofs.Tryd.Dig.tb_specText_ok) (by decide +kernel) Go.Proofs.Tryd.Scr.tb_specQuote_ok)
set_option maxRecDepth 100000 in
set_option maxHeartbeats 4000000 in
theorem specLine3 (cl og n : Int) (t : List UInt8) (h : rightE ⟨3, cl, og, n, t⟩ = true) : SpecE Tryd.prog 85 [] [.agg [.int .i64 3, .int .i64 cl, .int .i64 og, .int .i64 n, .str t]] [] (.str (evLine ⟨3, cl, og, n, t⟩)) := by
  refine specF0 (C := T_specLine3) (wr := false) (D := fun _ => []) (U := fun _ => none) (res := [.str (evLine ⟨3, cl, og, n, t⟩)]) Tryd.Ty.mixed T_specLine3_ok Tryd.func85 (nA := 1) (by decide +kernel) rfl (fun _ => rfl) ?_
  simp only [Tryd.f85, bodyOf, rlOf]
  rw [W_V]
  simp (config := {maxSteps := 2000000}) only [T_specLine3, Go.Proofs.Tryd.Act.tb_specWord, Go.Proofs.Tryd.Act.tb_of, Go.Proofs.Tryd.Dig.tb_specText, Go.Proofs.Tryd.Scr.tb_specQuote, go_sem, seval, wordS]
  (try simp (config := {maxSteps := 2000000}) only [gimp, impB, isT, go_sem, seval])
  have hr := (rightE_iff _).1 h
  unfold RightP at hr
  dsimp only at hr
  have l1 := textI_len cl
  have l2 := textI_len og
  have l3 := textI_len n
  have l4 := quote_len t
  refine ⟨h, ?_⟩
  (try simp only [List.length_append, List.length_cons, List.length_nil])
  and_intros <;> first | omega | (simp [evLine, wordS])
def T_specLine4 : Tbl := fun g E args => (addT (addT (addT (addT nilT 83 Go.Proofs.Tryd.Act.tb_specWord) 98 Go.Proofs.Tryd.Act.tb_of) 26 Go.Proofs.Tryd.Dig.tb_specText) 15 Go.Proofs.Tryd.Scr.tb_specQuote) g E args
theorem T_specLine4_ok : TblOK Tryd.prog T_specLine4 := (addT_ok (addT_ok (addT_ok (addT_ok nilT_ok (by decide +kernel) Go.Proofs.Tryd.Act.tb_specWord_ok) (by decide +kernel) Go.Proofs.Tryd.Act.tb_of_ok) (by decide +kernel) Go.Proofs.Tryd.Dig.tb_specText_ok) (by decide +kernel) Go.Proofs.Tryd.Scr.tb_specQuote_ok)
set_option maxRecDepth 100000 in
set_option maxHeartbeats 4000000 in
theorem specLine4 (cl og n : Int) (t : List UInt8) (h : rightE ⟨4, cl, og, n, t⟩ = true) : SpecE Tryd.prog 85 [] [.agg [.int .i64 4, .int .i64 cl, .int .i64 og, .int .i64 n, .str t]] [] (.str (evLine ⟨4, cl, og, n, t⟩)) := by
  refine specF0 (C := T_specLine4) (wr := false) (D := fun _ => []) (U := fun _ => none) (res := [.str (evLine ⟨4, cl, og, n, t⟩)]) Tryd.Ty.mixed T_specLine4_ok Tryd.func85 (nA := 1) (by decide +kernel) rfl (fun _ => rfl) ?_
  simp only [Tryd.f85, bodyOf, rlOf]
  rw [W_V]
  simp (config := {maxSteps := 2000000}) only [T_specLine4, Go.Proofs.Tryd.Act.tb_specWord, Go.Proofs.Tryd.Act.tb_of, Go.Proofs.Tryd.Dig.tb_specText, Go.Proofs.Tryd.Scr.tb_specQuote, go_sem, seval, wordS]
  (try simp (config := {maxSteps := 2000000}) only [gimp, impB, isT, go_sem, seval])
  have hr := (rightE_iff _).1 h
  unfold RightP at hr
  dsimp only at hr
  have l1 := textI_len cl
  have l2 := textI_len og
  have l3 := textI_len n
  have l4 := quote_len t
  refine ⟨h, ?_⟩
  (try simp only [List.length_append, List.length_cons, List.length_nil])
  and_intros <;> first | omega | (simp [evLine, wordS])
def T_specLine5 : Tbl := fun g E args => (addT (addT (addT (addT nilT 83 Go.Proofs.Tryd.Act.tb_specWord) 98 Go.Proofs.Tryd.Act.tb_of) 26 Go.Proofs.Tryd.Dig.tb_specText) 15 Go.Proofs.Tryd.Scr.tb_specQuote) g E args
theorem T_specLine5_ok : TblOK Tryd.prog T_specLine5 := (addT_ok (addT_ok (addT_ok (addT_ok nilT_ok (by decide +kernel) Go.Proofs.Tryd.Act.tb_specWord_ok) (by decide +kernel) Go.Proofs.Tryd.Act.tb_of_ok) (by decide +kernel) Go.Proofs.Tryd.Dig.tb_specText_ok) (by decide +kernel) Go.Proofs.Tryd.Scr.tb_specQuote_ok)
set_option maxRecDepth 100000 in
set_option maxHeartbeats 4000000 in
theorem specLine5 (cl og n : Int) (t : List UInt8) (h : rightE ⟨5, cl, og, n, t⟩ = true) : SpecE Tryd.prog 85 [] [.agg [.int .i64 5, .int .i64 cl, .int .i64 og, .int .i64 n, .str t]] [] (.str (evLine ⟨5, cl, og, n, t⟩)) := by
  refine specF0 (C := T_specLine5) (wr := false) (D := fun _ => []) (U := fun _ => none) (res := [.str (evLine ⟨5, cl, og, n, t⟩)]) Tryd.Ty.mixed T_specLine5_ok Tryd.func85 (nA := 1) (by decide +kernel) rfl (fun _ => rfl) ?_
  simp only [Tryd.f85, bodyOf, rlOf]
  rw [W_V]
  simp (config := {maxSteps := 2000000}) only [T_specLine5, Go.Proofs.Tryd.Act.tb_specWord, Go.Proofs.Tryd.Act.tb_of, Go.Proofs.Tryd.Dig.tb_specText, Go.Proofs.Tryd.Scr.tb_specQuote, go_sem, seval, wordS]
  (try simp (config := {maxSteps := 2000000}) only [gimp, impB, isT, go_sem, seval])
  have hr := (rightE_iff _).1 h
  unfold RightP at hr
  dsimp only at hr
  have l1 := textI_len cl
  have l2 := textI_len og
  have l3 := textI_len n
  have l4 := quote_len t
  refine ⟨h, ?_⟩
  (try simp only [List.length_append, List.length_cons, List.length_nil])
  and_intros <;> first | omega | (simp [evLine, wordS])
def T_specLine6 : Tbl := fun g E args => (addT (addT (addT (addT nilT 83 Go.Proofs.Tryd.Act.tb_specWord) 98 Go.Proofs.Tryd.Act.tb_of) 26 Go.Proofs.Tryd.Dig.tb_specText) 15 Go.Proofs.Tryd.Scr.tb_specQuote) g E args
theorem T_specLine6_ok : TblOK Tryd.prog T_specLine6 := (addT_ok (addT_ok (addT_ok (addT_ok nilT_ok (by decide +kernel) Go.Proofs.Tryd.Act.tb_specWord_ok) (by decide +kernel) Go.Proofs.Tryd.Act.tb_of_ok) (by decide +kernel) Go.Proofs.Tryd.Dig.tb_specText_ok) (by decide +kernel) Go.Proofs.Tryd.Scr.tb_specQuote_ok)
set_option maxRecDepth 100000 in
set_option maxHeartbeats 4000000 in
theorem specLine6 (cl og n : Int) (t : List UInt8) (h : rightE ⟨6, cl, og, n, t⟩ = true) : SpecE Tryd.prog 85 [] [.agg [.int .i64 6, .int .i64 cl, .int .i64 og, .int .i64 n, .str t]] [] (.str (evLine ⟨6, cl, og, n, t⟩)) := by
  refine specF0 (C := T_specLine6) (wr := false) (D := fun _ => []) (U := fun _ => none) (res := [.str (evLine ⟨6, cl, og, n, t⟩)]) Tryd.Ty.mixed T_specLine6_ok Tryd.func85 (nA := 1) (by decide +kernel) rfl (fun _ => rfl) ?_
  simp only [Tryd.f85, bodyOf, rlOf]
  rw [W_V]
  simp (config := {maxSteps := 2000000}) only [T_specLine6, Go.Proofs.Tryd.Act.tb_specWord, Go.Proofs.Tryd.Act.tb_of, Go.Proofs.Tryd.Dig.tb_specText, Go.Proofs.Tryd.Scr.tb_specQuote, go_sem, seval, wordS]
  (try simp (config := {maxSteps := 2000000}) only [gimp, impB, isT, go_sem, seval])
  have hr := (rightE_iff _).1 h
  unfold RightP at hr
  dsimp only at hr
  have l1 := textI_len cl
  have l2 := textI_len og
  have l3 := textI_len n
  have l4 := quote_len t
  refine ⟨h, ?_⟩
  (try simp only [List.length_append, List.length_cons, List.length_nil])
  and_intros <;> first | omega | (simp [evLine, wordS])
def T_specLine7 : Tbl := fun g E args => (addT (addT (addT (addT nilT 83 Go.Proofs.Tryd.Act.tb_specWord) 98 Go.Proofs.Tryd.Act.tb_of) 26 Go.Proofs.Tryd.Dig.tb_specText) 15 Go.Proofs.Tryd.Scr.tb_specQuote) g E args
theorem T_specLine7_ok : TblOK Tryd.prog T_specLine7 := (addT_ok (addT_ok (addT_ok (addT_ok nilT_ok (by decide +kernel) Go.Proofs.Tryd.Act.tb_specWord_ok) (by decide +kernel) Go.Proofs.Tryd.Act.tb_of_ok) (by decide +kernel) Go.Proofs.Tryd.Dig.tb_specText_ok) (by decide +kernel) Go.Proofs.Tryd.Scr.tb_specQuote_ok)
set_option maxRecDepth 100000 in
set_option maxHeartbeats 4000000 in
theorem specLine7 (cl og n : Int) (t : List UInt8) (h : rightE ⟨7, cl, og, n, t⟩ = true) : SpecE Tryd.prog 85 [] [.agg [.int .i64 7, .int .i64 cl, .int .i64 og, .int .i64 n, .str t]] [] (.str (evLine ⟨7, cl, og, n, t⟩)) := by
  refine specF0 (C := T_specLine7) (wr := false) (D := fun _ => []) (U := fun _ => none) (res := [.str (evLine ⟨7, cl, og, n, t⟩)]) Tryd.Ty.mixed T_specLine7_ok Tryd.func85 (nA := 1) (by decide +kernel) rfl (fun _ => rfl) ?_
  simp only [Tryd.f85, bodyOf, rlOf]
  rw [W_V]
  simp (config := {maxSteps := 2000000}) only [T_specLine7, Go.Proofs.Tryd.Act.tb_specWord, Go.Proofs.Tryd.Act.tb_of, Go.Proofs.Tryd.Dig.tb_specText, Go.Proofs.Tryd.Scr.tb_specQuote, go_sem, seval, wordS]
  (try simp (config := {maxSteps := 2000000}) only [gimp, impB, isT, go_sem, seval])
  have hr := (rightE_iff _).1 h
  unfold RightP at hr
  dsimp only at hr
  have l1 := textI_len cl
  have l2 := textI_len og
  have l3 := textI_len n
  have l4 := quote_len t
  refine ⟨h, ?_⟩
  (try simp only [List.length_append, List.length_cons, List.length_nil])
  and_intros <;> first | omega | (simp [evLine, wordS])
def tb_line : List Blk → List AV → Option (List Blk × AV × Prop)
  | [], [.agg [.int .i64 op, .int .i64 cl, .int .i64 og, .int .i64 n, .str t]] => some ([], .str (evLine ⟨op, cl, og, n, t⟩), rightE ⟨op, cl, og, n, t⟩ = true)
  | _, _ => none
theorem tb_line_ok : ∀ E args E' res q, tb_line E args = some (E', res, q) → q → SpecE Tryd.prog 85 E args E' res := by
  intro E args E' res q h hq
  unfold tb_line at h
  split at h
  · rename_i op cl og n t
    simp only [Option.some.injEq, Prod.mk.injEq] at h
    obtain ⟨rfl, rfl, rfl⟩ := h
    have hr := (rightE_iff _).1 hq
    unfold RightP at hr
    dsimp only at hr
    rcases op_cases hr.1 hr.2.1 with rfl | rfl | rfl | rfl | rfl | rfl | rfl
    · exact specLine1 _ _ _ _ hq
    · exact specLine2 _ _ _ _ hq
    · exact specLine3 _ _ _ _ hq
    · exact specLine4 _ _ _ _ hq
    · exact specLine5 _ _ _ _ hq
    · exact specLine6 _ _ _ _ hq
    · exact specLine7 _ _ _ _ hq
  · cases h
end Go.Proofs.Tryd.Act
end
section
set_option linter.unusedVariables false
set_option linter.unusedSimpArgs false
namespace Go.Proofs.Tryd.Evt
open Go Go.Abs Go.Proofs Go.Mdl
theorem ev_fin {s : List UInt8} {e : Ev} (he : gEv s = e) :
    ((rightE e = false ∨ ¬ evLine e = s) → AV.agg [.int .i64 0, .int .i64 0, .int .i64 0, .int .i64 0, .str []] = AV.agg [.int .i64 (evS s).op, .int .i64 (evS s).cl, .int .i64 (evS s).og, .int .i64 (evS s).n, .str (evS s).t] ∧ false = evB s) ∧
    (rightE e = true → evLine e = s → AV.agg [.int .i64 e.op, .int .i64 e.cl, .int .i64 e.og, .int .i64 e.n, .str e.t] = AV.agg [.int .i64 (evS s).op, .int .i64 (evS s).cl, .int .i64 (evS s).og, .int .i64 (evS s).n, .str (evS s).t] ∧ true = evB s) := by
  refine ⟨fun h => ?_, fun h1 h2 => ?_⟩
  · have hb : evB s = false := by
      rw [evB, he]
      rcases h with h | h
      · rw [h]; rfl
      · rw [decide_eq_false h, Bool.and_false]
    rw [evS, if_neg (by rw [hb]; decide), hb]
    exact ⟨rfl, rfl⟩
  · have hb : evB s = true := by rw [evB, he, h1, decide_eq_true h2]; rfl
    rw [evS, if_pos hb, hb, he]
    exact ⟨rfl, rfl⟩
def T_specEvent : Tbl := fun g E args => (addT (addT (addT (addT (addT (addT nilT 82 Go.Proofs.Tryd.Lib.tb_specCut) 83 Go.Proofs.Tryd.Act.tb_specWord) 20 Go.Proofs.Tryd.Dig.tb_specDec) 13 Go.Proofs.Tryd.Scr.tb_specUnquote) 84 Go.Proofs.Tryd.Act.tb_specRight) 85 Go.Proofs.Tryd.Act.tb_line) g E args
theorem T_specEvent_ok : TblOK Tryd.prog T_specEvent := (addT_ok (addT_ok (addT_ok (addT_ok (addT_ok (addT_ok nilT_ok (by decide +kernel) Go.Proofs.Tryd.Lib.tb_specCut_ok) (by decide +kernel) Go.Proofs.Tryd.Act.tb_specWord_ok) (by decide +kernel) Go.Proofs.Tryd.Dig.tb_specDec_ok) (by decide +kernel) Go.Proofs.Tryd.Scr.tb_specUnquote_ok) (by decide +kernel) Go.Proofs.Tryd.Act.tb_specRight_ok) (by decide +kernel) Go.Proofs.Tryd.Act.tb_line_ok)
set_option maxRecDepth 100000 in
set_option maxHeartbeats 4000000 in
theorem specEvent (s : List UInt8) (hs : s.length ≤ 1000000) : SpecE Tryd.prog 61 [] [.str s] [] (.tuple [.agg [.int .i64 (evS s).op, .int .i64 (evS s).cl, .int .i64 (evS s).og, .int .i64 (evS s).n, .str (evS s).t], .bool (evB s)]) := by
  refine specF0 (C := T_specEvent) (wr := false) (D := fun _ => []) (U := fun _ => none) (res := [.agg [.int .i64 (evS s).op, .int .i64 (evS s).cl, .int .i64 (evS s).og, .int .i64 (evS s).n, .str (evS s).t], .bool (evB s)]) Tryd.Ty.mixed T_specEvent_ok Tryd.func61 (nA := 1) (by decide +kernel) rfl (fun _ => rfl) ?_
  simp only [Tryd.f61, bodyOf, rlOf]
  rw [W_V]
  simp (config := {maxSteps := 2000000}) only [T_specEvent, Go.Proofs.Tryd.Lib.tb_specCut, Go.Proofs.Tryd.Act.tb_specWord, Go.Proofs.Tryd.Dig.tb_specDec, Go.Proofs.Tryd.Scr.tb_specUnquote, Go.Proofs.Tryd.Act.tb_specRight, Go.Proofs.Tryd.Act.tb_line, go_sem, seval]
  (try simp (config := {maxSteps := 2000000}) only [gimp, impB, isT, go_sem, seval])
  have hmx : (1000000 : Nat) ≤ maxLen := by decide
  refine ⟨by omega, ?_⟩
  rw [show s.take (upTo 32 s) = gW s from rfl, show s.drop (upTo 32 s + 1) = gR s from rfl]
  refine VL_inv (X := Nat) (fun k => ⟨[(0, .str s), (2, .ptr 48 0 0 1), (3, .bool false), (4, .ptr 80 0 0 1), (5, .str (gW s)), (6, .str (gR s)), (8, .int .i64 ((k : Int) + 1))],
    [(48, .cells 5 false (.agg [.int .i64 0, .int .i64 0, .int .i64 0, .int .i64 0, .str []]) [.agg [.int .i64 0, .int .i64 0, .int .i64 0, .int .i64 0, .str []]]), (80, .cells 5 false (.agg [.int .i64 0, .int .i64 0, .int .i64 0, .int .i64 0, .str []]) [.agg [.int .i64 (opTo (gW s) k), .int .i64 0, .int .i64 0, .int .i64 0, .str []]])]⟩) (fun k => k ≤ 7) (fun k => 7 - k) 0 ?_ ?_ ?_
  · simp only [T_specEvent, Go.Proofs.Tryd.Lib.tb_specCut, Go.Proofs.Tryd.Act.tb_specWord, Go.Proofs.Tryd.Dig.tb_specDec, Go.Proofs.Tryd.Scr.tb_specUnquote, Go.Proofs.Tryd.Act.tb_specRight, Go.Proofs.Tryd.Act.tb_line, go_sem, seval]
    rfl
  · exact Nat.zero_le _
  rintro k hk
  simp (config := {maxSteps := 2000000}) only [T_specEvent, Go.Proofs.Tryd.Lib.tb_specCut, Go.Proofs.Tryd.Act.tb_specWord, Go.Proofs.Tryd.Dig.tb_specDec, Go.Proofs.Tryd.Scr.tb_specUnquote, Go.Proofs.Tryd.Act.tb_specRight, Go.Proofs.Tryd.Act.tb_line, go_sem, seval]
  (try simp (config := {maxSteps := 2000000}) only [gimp, impB, isT, go_sem, seval])
  have g0 : (gR s).length ≤ s.length := by unfold gR; rw [List.length_drop]; omega
  have step : (k : Int) + 1 ≤ 7 → opTo (gW s) (k + 1) = if wordS ((k : Int) + 1) = gW s then (k : Int) + 1 else opTo (gW s) k := fun _ => by simp [opTo]
  refine ⟨fun hlt => ⟨fun hw => ⟨by omega, k + 1, ⟨by omega, ?_⟩, by omega, by omega⟩, fun hw => ⟨by omega, k + 1, ⟨by omega, ?_⟩, by omega, by omega⟩⟩, fun hge => ?_⟩
  · rw [step hlt, if_pos hw]
  · rw [step hlt, if_neg hw]
  have hk7 : k = 7 := by omega
  subst hk7
  have ho : opTo (gW s) 7 = gOp s := opTo_7 (gW s)
  rw [ho]
  refine ⟨by omega, fun h6 => ⟨by decide, fun h2 => ?_, fun h2 => ?_⟩, fun h6 => ⟨by rw [List.length_take]; omega, fun h2 => ?_, fun h2 => ?_⟩⟩
  · omega
  · refine ev_fin ?_
    simp only [gEv, gCl, gOg, gT, gN, gNm, gLs, if_pos h6, if_neg h2]
    rfl
  · refine ⟨by rw [List.length_drop]; omega, ?_⟩
    refine ev_fin ?_
    simp only [gEv, gCl, gOg, gT, gN, gNm, gLs, if_neg h6, if_pos h2]
  · refine ev_fin ?_
    simp only [gEv, gCl, gOg, gT, gN, gNm, gLs, if_neg h6, if_neg h2]
def tb_specEvent : List Blk → List AV → Option (List Blk × AV × Prop)
  | [], [.str s] => some ([], .tuple [.agg [.int .i64 (evS s).op, .int .i64 (evS s).cl, .int .i64 (evS s).og, .int .i64 (evS s).n, .str (evS s).t], .bool (evB s)], (s.length ≤ 1000000))
  | _, _ => none
theorem tb_specEvent_ok : ∀ E args E' res p, tb_specEvent E args = some (E', res, p) → p → SpecE Tryd.prog 61 E args E' res := by
  intro E args E' res p h hp
  unfold tb_specEvent at h
  split at h
  · simp only [Option.some.injEq, Prod.mk.injEq] at h
    obtain ⟨rfl, rfl, rfl⟩ := h
    exact (specEvent _ hp)
  · cases h
end Go.Proofs.Tryd.Evt
end
section
set_option linter.unusedVariables false
set_option linter.unusedSimpArgs false
namespace Go.Proofs.Tryd.Cfg
open Go Go.Abs Go.Proofs Go.Mdl
def cfz : AV := .agg [.str [], .str [], .int .i64 0, .int .i64 0, .int .i64 0, .int .i64 0, .int .i64 0, .int .i64 0, .int .i64 0, .int .i64 0, .int .i64 0, .int .i64 0, .int .i64 0, .int .i64 0, .int .i64 0, .int .i64 0, .int .i64 0, .int .i64 0]
def T_specBounds : Tbl := fun g E args => nilT g E args
theorem T_specBounds_ok : TblOK Tryd.prog T_specBounds := nilT_ok
set_option maxRecDepth 100000 in
set_option maxHeartbeats 4000000 in
theorem specBounds (nm au : List UInt8) (n0 n1 n2 n3 n4 n5 n6 n7 n8 n9 n10 n11 n12 n13 n14 n15 : Int) : SpecE Tryd.prog 63 [.cells 18 false cfz [.agg [.str nm, .str au, .int .i64 n0, .int .i64 n1, .int .i64 n2, .int .i64 n3, .int .i64 n4, .int .i64 n5, .int .i64 n6, .int .i64 n7, .int .i64 n8, .int .i64 n9, .int .i64 n10, .int .i64 n11, .int .i64 n12, .int .i64 n13, .int .i64 n14, .int .i64 n15]]] [.ptr 0 0 0 1] [.cells 18 false cfz [.agg [.str nm, .str au, .int .i64 n0, .int .i64 n1, .int .i64 n2, .int .i64 n3, .int .i64 n4, .int .i64 n5, .int .i64 n6, .int .i64 n7, .int .i64 n8, .int .i64 n9, .int .i64 n10, .int .i64 n11, .int .i64 n12, .int .i64 n13, .int .i64 n14, .int .i64 n15]]] (.agg [.ptr 0 0 2 1, .int .i64 0, .int .i64 1, .ptr 0 0 3 1, .int .i64 0, .int .i64 1, .ptr 0 0 4 1, .int .i64 0, .int .i64 1, .ptr 0 0 5 1, .int .i64 0, .int .i64 1, .ptr 0 0 6 1, .int .i64 1, .int .i64 65536, .ptr 0 0 7 1, .int .i64 1, .int .i64 65536, .ptr 0 0 8 1, .int .i64 0, .int .i64 100, .ptr 0 0 9 1, .int .i64 0, .int .i64 1073741824, .ptr 0 0 10 1, .int .i64 1, .int .i64 16, .ptr 0 0 11 1, .int .i64 1, .int .i64 16, .ptr 0 0 12 1, .int .i64 0, .int .i64 1, .ptr 0 0 13 1, .int .i64 16, .int .i64 65536, .ptr 0 0 14 1, .int .i64 1, .int .i64 1000, .ptr 0 0 15 1, .int .i64 3, .int .i64 4096, .ptr 0 0 16 1, .int .i64 0, .int .i64 1048576, .ptr 0 0 17 1, .int .i64 0, .int .i64 1]) := by
  refine specFE (C := T_specBounds) (wr := false) (D := fun i => if i = 2 then [65] else []) (U := fun _ => none) (E := [.cells 18 false cfz [.agg [.str nm, .str au, .int .i64 n0, .int .i64 n1, .int .i64 n2, .int .i64 n3, .int .i64 n4, .int .i64 n5, .int .i64 n6, .int .i64 n7, .int .i64 n8, .int .i64 n9, .int .i64 n10, .int .i64 n11, .int .i64 n12, .int .i64 n13, .int .i64 n14, .int .i64 n15]]]) (E' := [.cells 18 false cfz [.agg [.str nm, .str au, .int .i64 n0, .int .i64 n1, .int .i64 n2, .int .i64 n3, .int .i64 n4, .int .i64 n5, .int .i64 n6, .int .i64 n7, .int .i64 n8, .int .i64 n9, .int .i64 n10, .int .i64 n11, .int .i64 n12, .int .i64 n13, .int .i64 n14, .int .i64 n15]]]) (res := [.agg [.ptr 0 0 2 1, .int .i64 0, .int .i64 1, .ptr 0 0 3 1, .int .i64 0, .int .i64 1, .ptr 0 0 4 1, .int .i64 0, .int .i64 1, .ptr 0 0 5 1, .int .i64 0, .int .i64 1, .ptr 0 0 6 1, .int .i64 1, .int .i64 65536, .ptr 0 0 7 1, .int .i64 1, .int .i64 65536, .ptr 0 0 8 1, .int .i64 0, .int .i64 100, .ptr 0 0 9 1, .int .i64 0, .int .i64 1073741824, .ptr 0 0 10 1, .int .i64 1, .int .i64 16, .ptr 0 0 11 1, .int .i64 1, .int .i64 16, .ptr 0 0 12 1, .int .i64 0, .int .i64 1, .ptr 0 0 13 1, .int .i64 16, .int .i64 65536, .ptr 0 0 14 1, .int .i64 1, .int .i64 1000, .ptr 0 0 15 1, .int .i64 3, .int .i64 4096, .ptr 0 0 16 1, .int .i64 0, .int .i64 1048576, .ptr 0 0 17 1, .int .i64 0, .int .i64 1]]) [] Tryd.Ty.mixed T_specBounds_ok Tryd.func63 (args := [.ptr 0 0 0 1]) (nE := 1) (nA := 1) (by decide +kernel) rfl rfl ?_
  simp only [Tryd.f63, bodyOf, rlOf]
  rw [W_V]
  simp (config := {maxSteps := 2000000}) only [T_specBounds, go_sem, seval, Option.some.injEq, false_and, one1, cfz]
  (try simp (config := {maxSteps := 2000000}) only [gimp, impB, isT, go_sem, seval])
def tb_specBounds : List Blk → List AV → Option (List Blk × AV × Prop)
  | [.cells 18 false d [.agg [.str nm, .str au, .int .i64 n0, .int .i64 n1, .int .i64 n2, .int .i64 n3, .int .i64 n4, .int .i64 n5, .int .i64 n6, .int .i64 n7, .int .i64 n8, .int .i64 n9, .int .i64 n10, .int .i64 n11, .int .i64 n12, .int .i64 n13, .int .i64 n14, .int .i64 n15]]], [.ptr 0 0 0 1] => some ([.cells 18 false cfz [.agg [.str nm, .str au, .int .i64 n0, .int .i64 n1, .int .i64 n2, .int .i64 n3, .int .i64 n4, .int .i64 n5, .int .i64 n6, .int .i64 n7, .int .i64 n8, .int .i64 n9, .int .i64 n10, .int .i64 n11, .int .i64 n12, .int .i64 n13, .int .i64 n14, .int .i64 n15]]], .agg [.ptr 0 0 2 1, .int .i64 0, .int .i64 1, .ptr 0 0 3 1, .int .i64 0, .int .i64 1, .ptr 0 0 4 1, .int .i64 0, .int .i64 1, .ptr 0 0 5 1, .int .i64 0, .int .i64 1, .ptr 0 0 6 1, .int .i64 1, .int .i64 65536, .ptr 0 0 7 1, .int .i64 1, .int .i64 65536, .ptr 0 0 8 1, .int .i64 0, .int .i64 100, .ptr 0 0 9 1, .int .i64 0, .int .i64 1073741824, .ptr 0 0 10 1, .int .i64 1, .int .i64 16, .ptr 0 0 11 1, .int .i64 1, .int .i64 16, .ptr 0 0 12 1, .int .i64 0, .int .i64 1, .ptr 0 0 13 1, .int .i64 16, .int .i64 65536, .ptr 0 0 14 1, .int .i64 1, .int .i64 1000, .ptr 0 0 15 1, .int .i64 3, .int .i64 4096, .ptr 0 0 16 1, .int .i64 0, .int .i64 1048576, .ptr 0 0 17 1, .int .i64 0, .int .i64 1], (d = cfz))
  | _, _ => none
theorem tb_specBounds_ok : ∀ E args E' res p, tb_specBounds E args = some (E', res, p) → p → SpecE Tryd.prog 63 E args E' res := by
  intro E args E' res p h hp
  unfold tb_specBounds at h
  split at h
  · simp only [Option.some.injEq, Prod.mk.injEq] at h
    obtain ⟨rfl, rfl, rfl⟩ := h
    obtain rfl := hp
    exact (specBounds _ _ _ _ _ _ _ _ _ _ _ _ _ _ _ _ _ _)
  · cases h
def T_specRight : Tbl := fun g E args => (addT (addT (addT nilT 86 Go.Proofs.Tryd.Host.tb_specKey) 87 Go.Proofs.Tryd.Oct.tb_specToken) 63 Go.Proofs.Tryd.Cfg.tb_specBounds) g E args
theorem T_specRight_ok : TblOK Tryd.prog T_specRight := (addT_ok (addT_ok (addT_ok nilT_ok (by decide +kernel) Go.Proofs.Tryd.Host.tb_specKey_ok) (by decide +kernel) Go.Proofs.Tryd.Oct.tb_specToken_ok) (by decide +kernel) Go.Proofs.Tryd.Cfg.tb_specBounds_ok)
set_option maxRecDepth 100000 in
set_option maxHeartbeats 4000000 in
theorem specRight (nm au : List UInt8) (n0 n1 n2 n3 n4 n5 n6 n7 n8 n9 n10 n11 n12 n13 n14 n15 : Int) (hn : nm.length ≤ 1000000) (ha : au.length ≤ 1000000) : SpecE Tryd.prog 62 [] [.agg [.str nm, .str au, .int .i64 n0, .int .i64 n1, .int .i64 n2, .int .i64 n3, .int .i64 n4, .int .i64 n5, .int .i64 n6, .int .i64 n7, .int .i64 n8, .int .i64 n9, .int .i64 n10, .int .i64 n11, .int .i64 n12, .int .i64 n13, .int .i64 n14, .int .i64 n15]] [] (.int .i64 (cfgErr nm au (cfgL n0 n1 n2 n3 n4 n5 n6 n7 n8 n9 n10 n11 n12 n13 n14 n15))) := by
  refine specF0 (C := T_specRight) (wr := false) (D := fun _ => []) (U := fun _ => none) (res := [.int .i64 (cfgErr nm au (cfgL n0 n1 n2 n3 n4 n5 n6 n7 n8 n9 n10 n11 n12 n13 n14 n15))]) Tryd.Ty.mixed T_specRight_ok Tryd.func62 (nA := 1) (by decide +kernel) rfl (fun _ => rfl) ?_
  simp only [Tryd.f62, bodyOf, rlOf]
  rw [W_V]
  simp (config := {maxSteps := 2000000}) only [T_specRight, Go.Proofs.Tryd.Host.tb_specKey, Go.Proofs.Tryd.Oct.tb_specToken, Go.Proofs.Tryd.Cfg.tb_specBounds, go_sem, seval, cfz]
  (try simp (config := {maxSteps := 2000000}) only [gimp, impB, isT, go_sem, seval])
  refine ⟨ha, fun h => (cfgErr_name h).symm, fun h1 h2 => ⟨fun h3 h4 => (cfgErr_host h1 h2 h3 h4).symm, fun h3 => ?_⟩⟩
  rw [cfgErr_num h1 h2 h3]
  clear h1 h2 h3
  refine VL_inv (X := Int) (fun k => ⟨[(1, .ptr 32 0 0 1), (39, .agg [.ptr 32 0 2 1, .int .i64 0, .int .i64 1, .ptr 32 0 3 1, .int .i64 0, .int .i64 1, .ptr 32 0 4 1, .int .i64 0, .int .i64 1, .ptr 32 0 5 1, .int .i64 0, .int .i64 1, .ptr 32 0 6 1, .int .i64 1, .int .i64 65536, .ptr 32 0 7 1, .int .i64 1, .int .i64 65536, .ptr 32 0 8 1, .int .i64 0, .int .i64 100, .ptr 32 0 9 1, .int .i64 0, .int .i64 1073741824, .ptr 32 0 10 1, .int .i64 1, .int .i64 16, .ptr 32 0 11 1, .int .i64 1, .int .i64 16, .ptr 32 0 12 1, .int .i64 0, .int .i64 1, .ptr 32 0 13 1, .int .i64 16, .int .i64 65536, .ptr 32 0 14 1, .int .i64 1, .int .i64 1000, .ptr 32 0 15 1, .int .i64 3, .int .i64 4096, .ptr 32 0 16 1, .int .i64 0, .int .i64 1048576, .ptr 32 0 17 1, .int .i64 0, .int .i64 1]), (40, .int .i64 k)], [(32, .cells 18 false cfz [.agg [.str nm, .str au, .int .i64 n0, .int .i64 n1, .int .i64 n2, .int .i64 n3, .int .i64 n4, .int .i64 n5, .int .i64 n6, .int .i64 n7, .int .i64 n8, .int .i64 n9, .int .i64 n10, .int .i64 n11, .int .i64 n12, .int .i64 n13, .int .i64 n14, .int .i64 n15]])]⟩) (fun k => 0 ≤ k ∧ k ≤ 16 ∧ ∀ i : Nat, (i : Int) < k → cfgLo.getD i 0 ≤ (cfgL n0 n1 n2 n3 n4 n5 n6 n7 n8 n9 n10 n11 n12 n13 n14 n15).getD i 0 ∧ (cfgL n0 n1 n2 n3 n4 n5 n6 n7 n8 n9 n10 n11 n12 n13 n14 n15).getD i 0 ≤ cfgHi.getD i 0) (fun k => (16 - k).toNat) 0 ?_ ?_ ?_
  · simp only [T_specRight, Go.Proofs.Tryd.Host.tb_specKey, Go.Proofs.Tryd.Oct.tb_specToken, Go.Proofs.Tryd.Cfg.tb_specBounds, go_sem, seval, cfz]
    try rfl
  · exact ⟨by decide, by decide, fun i hi => by omega⟩
  rintro k ⟨hk0, hk, hn⟩
  have hc : k = 0 ∨ k = 1 ∨ k = 2 ∨ k = 3 ∨ k = 4 ∨ k = 5 ∨ k = 6 ∨ k = 7 ∨ k = 8 ∨ k = 9 ∨ k = 10 ∨ k = 11 ∨ k = 12 ∨ k = 13 ∨ k = 14 ∨ k = 15 ∨ k = 16 := by omega
  rcases hc with rfl | rfl | rfl | rfl | rfl | rfl | rfl | rfl | rfl | rfl | rfl | rfl | rfl | rfl | rfl | rfl | rfl
  all_goals simp (config := {maxSteps := 2000000}) only [T_specRight, Go.Proofs.Tryd.Host.tb_specKey, Go.Proofs.Tryd.Oct.tb_specToken, Go.Proofs.Tryd.Cfg.tb_specBounds, go_sem, seval, cfz]
  all_goals (try simp (config := {maxSteps := 2000000}) only [gimp, impB, isT, go_sem, seval])
  · refine ⟨fun h => cfgOk_out 0 (by decide) h, fun g1 g2 => ⟨1, rfl, ⟨by omega, by omega, cfg_next (k := 0) hn ⟨g1, g2⟩⟩, by decide⟩⟩
  · refine ⟨fun h => cfgOk_out 1 (by decide) h, fun g1 g2 => ⟨2, rfl, ⟨by omega, by omega, cfg_next (k := 1) hn ⟨g1, g2⟩⟩, by decide⟩⟩
  · refine ⟨fun h => cfgOk_out 2 (by decide) h, fun g1 g2 => ⟨3, rfl, ⟨by omega, by omega, cfg_next (k := 2) hn ⟨g1, g2⟩⟩, by decide⟩⟩
  · refine ⟨fun h => cfgOk_out 3 (by decide) h, fun g1 g2 => ⟨4, rfl, ⟨by omega, by omega, cfg_next (k := 3) hn ⟨g1, g2⟩⟩, by decide⟩⟩
  · refine ⟨fun h => cfgOk_out 4 (by decide) h, fun g1 g2 => ⟨5, rfl, ⟨by omega, by omega, cfg_next (k := 4) hn ⟨g1, g2⟩⟩, by decide⟩⟩
  · refine ⟨fun h => cfgOk_out 5 (by decide) h, fun g1 g2 => ⟨6, rfl, ⟨by omega, by omega, cfg_next (k := 5) hn ⟨g1, g2⟩⟩, by decide⟩⟩
  · refine ⟨fun h => cfgOk_out 6 (by decide) h, fun g1 g2 => ⟨7, rfl, ⟨by omega, by omega, cfg_next (k := 6) hn ⟨g1, g2⟩⟩, by decide⟩⟩
  · refine ⟨fun h => cfgOk_out 7 (by decide) h, fun g1 g2 => ⟨8, rfl, ⟨by omega, by omega, cfg_next (k := 7) hn ⟨g1, g2⟩⟩, by decide⟩⟩
  · refine ⟨fun h => cfgOk_out 8 (by decide) h, fun g1 g2 => ⟨9, rfl, ⟨by omega, by omega, cfg_next (k := 8) hn ⟨g1, g2⟩⟩, by decide⟩⟩
  · refine ⟨fun h => cfgOk_out 9 (by decide) h, fun g1 g2 => ⟨10, rfl, ⟨by omega, by omega, cfg_next (k := 9) hn ⟨g1, g2⟩⟩, by decide⟩⟩
  · refine ⟨fun h => cfgOk_out 10 (by decide) h, fun g1 g2 => ⟨11, rfl, ⟨by omega, by omega, cfg_next (k := 10) hn ⟨g1, g2⟩⟩, by decide⟩⟩
  · refine ⟨fun h => cfgOk_out 11 (by decide) h, fun g1 g2 => ⟨12, rfl, ⟨by omega, by omega, cfg_next (k := 11) hn ⟨g1, g2⟩⟩, by decide⟩⟩
  · refine ⟨fun h => cfgOk_out 12 (by decide) h, fun g1 g2 => ⟨13, rfl, ⟨by omega, by omega, cfg_next (k := 12) hn ⟨g1, g2⟩⟩, by decide⟩⟩
  · refine ⟨fun h => cfgOk_out 13 (by decide) h, fun g1 g2 => ⟨14, rfl, ⟨by omega, by omega, cfg_next (k := 13) hn ⟨g1, g2⟩⟩, by decide⟩⟩
  · refine ⟨fun h => cfgOk_out 14 (by decide) h, fun g1 g2 => ⟨15, rfl, ⟨by omega, by omega, cfg_next (k := 14) hn ⟨g1, g2⟩⟩, by decide⟩⟩
  · refine ⟨fun h => cfgOk_out 15 (by decide) h, fun g1 g2 => ⟨16, rfl, ⟨by omega, by omega, cfg_next (k := 15) hn ⟨g1, g2⟩⟩, by decide⟩⟩
  · exact cfgOk_in (fun i hi => hn i (by omega))
def tb_specRight : List Blk → List AV → Option (List Blk × AV × Prop)
  | [], [.agg [.str nm, .str au, .int .i64 n0, .int .i64 n1, .int .i64 n2, .int .i64 n3, .int .i64 n4, .int .i64 n5, .int .i64 n6, .int .i64 n7, .int .i64 n8, .int .i64 n9, .int .i64 n10, .int .i64 n11, .int .i64 n12, .int .i64 n13, .int .i64 n14, .int .i64 n15]] => some ([], .int .i64 (cfgErr nm au (cfgL n0 n1 n2 n3 n4 n5 n6 n7 n8 n9 n10 n11 n12 n13 n14 n15)), (nm.length ≤ 1000000) ∧ (au.length ≤ 1000000))
  | _, _ => none
theorem tb_specRight_ok : ∀ E args E' res p, tb_specRight E args = some (E', res, p) → p → SpecE Tryd.prog 62 E args E' res := by
  intro E args E' res p h hp
  unfold tb_specRight at h
  split at h
  · simp only [Option.some.injEq, Prod.mk.injEq] at h
    obtain ⟨rfl, rfl, rfl⟩ := h
    exact (specRight _ _ _ _ _ _ _ _ _ _ _ _ _ _ _ _ _ _ hp.1 hp.2)
  · cases h
def T_specUsual : Tbl := fun g E args => nilT g E args
theorem T_specUsual_ok : TblOK Tryd.prog T_specUsual := nilT_ok
set_option maxRecDepth 100000 in
set_option maxHeartbeats 4000000 in
theorem specUsual : SpecE Tryd.prog 43 [] [] [] (.agg [.str [97, 98, 117, 116, 109, 101, 110, 116], .str [], .int .i64 1, .int .i64 0, .int .i64 1, .int .i64 1, .int .i64 1024, .int .i64 4096, .int .i64 10, .int .i64 0, .int .i64 8, .int .i64 8, .int .i64 0, .int .i64 8192, .int .i64 100, .int .i64 256, .int .i64 65536, .int .i64 0]) := by
  refine specF0 (C := T_specUsual) (wr := false) (D := fun i => if i = 1 then [2] else []) (U := fun _ => none) (res := [.agg [.str [97, 98, 117, 116, 109, 101, 110, 116], .str [], .int .i64 1, .int .i64 0, .int .i64 1, .int .i64 1, .int .i64 1024, .int .i64 4096, .int .i64 10, .int .i64 0, .int .i64 8, .int .i64 8, .int .i64 0, .int .i64 8192, .int .i64 100, .int .i64 256, .int .i64 65536, .int .i64 0]]) Tryd.Ty.mixed T_specUsual_ok Tryd.func43 (nA := 0) (by decide +kernel) rfl (fun _ => rfl) ?_
  simp only [Tryd.f43, bodyOf, rlOf]
  rw [W_V]
  simp (config := {maxSteps := 2000000}) only [T_specUsual, go_sem, seval]
  (try simp (config := {maxSteps := 2000000}) only [gimp, impB, isT, go_sem, seval])
def tb_specUsual : List Blk → List AV → Option (List Blk × AV × Prop)
  | [], [] => some ([], .agg [.str [97, 98, 117, 116, 109, 101, 110, 116], .str [], .int .i64 1, .int .i64 0, .int .i64 1, .int .i64 1, .int .i64 1024, .int .i64 4096, .int .i64 10, .int .i64 0, .int .i64 8, .int .i64 8, .int .i64 0, .int .i64 8192, .int .i64 100, .int .i64 256, .int .i64 65536, .int .i64 0], True)
  | _, _ => none
theorem tb_specUsual_ok : ∀ E args E' res p, tb_specUsual E args = some (E', res, p) → p → SpecE Tryd.prog 43 E args E' res := by
  intro E args E' res p h hp
  unfold tb_specUsual at h
  split at h
  · simp only [Option.some.injEq, Prod.mk.injEq] at h
    obtain ⟨rfl, rfl, rfl⟩ := h
    exact specUsual
  · cases h
def T_specPrint : Tbl := fun g E args => (addT (addT (addT (addT nilT 62 Go.Proofs.Tryd.Cfg.tb_specRight) 63 Go.Proofs.Tryd.Cfg.tb_specBounds) 26 Go.Proofs.Tryd.Dig.tb_specText) 64 Go.Proofs.Tryd.Lib.tb_specJoin) g E args
theorem T_specPrint_ok : TblOK Tryd.prog T_specPrint := (addT_ok (addT_ok (addT_ok (addT_ok nilT_ok (by decide +kernel) Go.Proofs.Tryd.Cfg.tb_specRight_ok) (by decide +kernel) Go.Proofs.Tryd.Cfg.tb_specBounds_ok) (by decide +kernel) Go.Proofs.Tryd.Dig.tb_specText_ok) (by decide +kernel) Go.Proofs.Tryd.Lib.tb_specJoin_ok)
set_option maxRecDepth 100000 in
set_option maxHeartbeats 4000000 in
theorem specPrint (nm au : List UInt8) (n0 n1 n2 n3 n4 n5 n6 n7 n8 n9 n10 n11 n12 n13 n14 n15 : Int) (hn : nm.length ≤ 1000000) (ha : au.length ≤ 1000000) : SpecE Tryd.prog 42 [] [.agg [.str nm, .str au, .int .i64 n0, .int .i64 n1, .int .i64 n2, .int .i64 n3, .int .i64 n4, .int .i64 n5, .int .i64 n6, .int .i64 n7, .int .i64 n8, .int .i64 n9, .int .i64 n10, .int .i64 n11, .int .i64 n12, .int .i64 n13, .int .i64 n14, .int .i64 n15]] [] (.str (cfgText nm au (cfgL n0 n1 n2 n3 n4 n5 n6 n7 n8 n9 n10 n11 n12 n13 n14 n15))) := by
  refine specF0 (C := T_specPrint) (wr := false) (D := fun _ => []) (U := fun i => if i = 6 then some ⟨Unit, fun _ => ⟨[(1, .ptr 32 0 0 1), (3, .ref 224 0 2 2)], [(32, .cells 18 false cfz [.agg [.str nm, .str au, .int .i64 n0, .int .i64 n1, .int .i64 n2, .int .i64 n3, .int .i64 n4, .int .i64 n5, .int .i64 n6, .int .i64 n7, .int .i64 n8, .int .i64 n9, .int .i64 n10, .int .i64 n11, .int .i64 n12, .int .i64 n13, .int .i64 n14, .int .i64 n15]]), (224, .cells 1 false (.str []) [.str nm, .str (cfgAu au)])]⟩, fun _ => cfgErr nm au (cfgL n0 n1 n2 n3 n4 n5 n6 n7 n8 n9 n10 n11 n12 n13 n14 n15) = 0⟩ else none) (res := [.str (cfgText nm au (cfgL n0 n1 n2 n3 n4 n5 n6 n7 n8 n9 n10 n11 n12 n13 n14 n15))]) Tryd.Ty.mixed T_specPrint_ok Tryd.func42 (nA := 1) (by decide +kernel) rfl (fun _ => rfl) ?_
  simp only [Tryd.f42, bodyOf, rlOf]
  rw [W_V]
  simp (config := {maxSteps := 2000000}) only [T_specPrint, Go.Proofs.Tryd.Cfg.tb_specRight, Go.Proofs.Tryd.Cfg.tb_specBounds, Go.Proofs.Tryd.Dig.tb_specText, Go.Proofs.Tryd.Lib.tb_specJoin, go_sem, seval, cfz]
  (try simp (config := {maxSteps := 2000000}) only [gimp, impB, isT, go_sem, seval])
  refine ⟨⟨hn, ha⟩, fun h => by rw [cfgText, if_neg h], fun h => ⟨⟨fun e => ⟨(), by simp [cfgAu, e], h⟩, fun e => ⟨(), by simp [cfgAu, e], h⟩⟩, fun h => ?_⟩⟩
  obtain ⟨q1, q2, q3⟩ := cfgErr_ok h
  refine VL_inv (X := Int) (fun k => ⟨[(1, .ptr 32 0 0 1), (3, .ref 224 0 (cfgW nm au (cfgL n0 n1 n2 n3 n4 n5 n6 n7 n8 n9 n10 n11 n12 n13 n14 n15) k.toNat).length (cfgW nm au (cfgL n0 n1 n2 n3 n4 n5 n6 n7 n8 n9 n10 n11 n12 n13 n14 n15) k.toNat).length), (19, .agg [.ptr 32 0 2 1, .int .i64 0, .int .i64 1, .ptr 32 0 3 1, .int .i64 0, .int .i64 1, .ptr 32 0 4 1, .int .i64 0, .int .i64 1, .ptr 32 0 5 1, .int .i64 0, .int .i64 1, .ptr 32 0 6 1, .int .i64 1, .int .i64 65536, .ptr 32 0 7 1, .int .i64 1, .int .i64 65536, .ptr 32 0 8 1, .int .i64 0, .int .i64 100, .ptr 32 0 9 1, .int .i64 0, .int .i64 1073741824, .ptr 32 0 10 1, .int .i64 1, .int .i64 16, .ptr 32 0 11 1, .int .i64 1, .int .i64 16, .ptr 32 0 12 1, .int .i64 0, .int .i64 1, .ptr 32 0 13 1, .int .i64 16, .int .i64 65536, .ptr 32 0 14 1, .int .i64 1, .int .i64 1000, .ptr 32 0 15 1, .int .i64 3, .int .i64 4096, .ptr 32 0 16 1, .int .i64 0, .int .i64 1048576, .ptr 32 0 17 1, .int .i64 0, .int .i64 1]), (20, .int .i64 k)], [(32, .cells 18 false cfz [.agg [.str nm, .str au, .int .i64 n0, .int .i64 n1, .int .i64 n2, .int .i64 n3, .int .i64 n4, .int .i64 n5, .int .i64 n6, .int .i64 n7, .int .i64 n8, .int .i64 n9, .int .i64 n10, .int .i64 n11, .int .i64 n12, .int .i64 n13, .int .i64 n14, .int .i64 n15]]), (224, .cells 1 false (.str []) ((cfgW nm au (cfgL n0 n1 n2 n3 n4 n5 n6 n7 n8 n9 n10 n11 n12 n13 n14 n15) k.toNat).map .str))]⟩) (fun k => 0 ≤ k ∧ k ≤ 16) (fun k => (16 - k).toNat) 0 ?_ ?_ ?_
  · simp only [cfgW_zero, T_specPrint, Go.Proofs.Tryd.Cfg.tb_specRight, Go.Proofs.Tryd.Cfg.tb_specBounds, Go.Proofs.Tryd.Dig.tb_specText, Go.Proofs.Tryd.Lib.tb_specJoin, go_sem, seval, cfz]
    try rfl
  · exact ⟨by decide, by decide⟩
  rintro k ⟨hk0, hk⟩
  have hc : k = 0 ∨ k = 1 ∨ k = 2 ∨ k = 3 ∨ k = 4 ∨ k = 5 ∨ k = 6 ∨ k = 7 ∨ k = 8 ∨ k = 9 ∨ k = 10 ∨ k = 11 ∨ k = 12 ∨ k = 13 ∨ k = 14 ∨ k = 15 ∨ k = 16 := by omega
  rcases hc with rfl | rfl | rfl | rfl | rfl | rfl | rfl | rfl | rfl | rfl | rfl | rfl | rfl | rfl | rfl | rfl | rfl
  all_goals simp (config := {maxSteps := 2000000}) only [T_specPrint, Go.Proofs.Tryd.Cfg.tb_specRight, Go.Proofs.Tryd.Cfg.tb_specBounds, Go.Proofs.Tryd.Dig.tb_specText, Go.Proofs.Tryd.Lib.tb_specJoin, go_sem, seval, cfz]
  all_goals (try simp (config := {maxSteps := 2000000}) only [gimp, impB, isT, go_sem, seval])
  · obtain ⟨w1, w2, w3⟩ := cfgW_step nm au (cfgL_len n0 n1 n2 n3 n4 n5 n6 n7 n8 n9 n10 n11 n12 n13 n14 n15) 0 (by decide)
    exact ⟨cfg_range q3 0 (by decide), w1, 1, ⟨⟨w2, rfl⟩, w3⟩, ⟨by decide, by decide⟩, by decide⟩
  · obtain ⟨w1, w2, w3⟩ := cfgW_step nm au (cfgL_len n0 n1 n2 n3 n4 n5 n6 n7 n8 n9 n10 n11 n12 n13 n14 n15) 1 (by decide)
    exact ⟨cfg_range q3 1 (by decide), w1, 2, ⟨⟨w2, rfl⟩, w3⟩, ⟨by decide, by decide⟩, by decide⟩
  · obtain ⟨w1, w2, w3⟩ := cfgW_step nm au (cfgL_len n0 n1 n2 n3 n4 n5 n6 n7 n8 n9 n10 n11 n12 n13 n14 n15) 2 (by decide)
    exact ⟨cfg_range q3 2 (by decide), w1, 3, ⟨⟨w2, rfl⟩, w3⟩, ⟨by decide, by decide⟩, by decide⟩
  · obtain ⟨w1, w2, w3⟩ := cfgW_step nm au (cfgL_len n0 n1 n2 n3 n4 n5 n6 n7 n8 n9 n10 n11 n12 n13 n14 n15) 3 (by decide)
    exact ⟨cfg_range q3 3 (by decide), w1, 4, ⟨⟨w2, rfl⟩, w3⟩, ⟨by decide, by decide⟩, by decide⟩
  · obtain ⟨w1, w2, w3⟩ := cfgW_step nm au (cfgL_len n0 n1 n2 n3 n4 n5 n6 n7 n8 n9 n10 n11 n12 n13 n14 n15) 4 (by decide)
    exact ⟨cfg_range q3 4 (by decide), w1, 5, ⟨⟨w2, rfl⟩, w3⟩, ⟨by decide, by decide⟩, by decide⟩
  · obtain ⟨w1, w2, w3⟩ := cfgW_step nm au (cfgL_len n0 n1 n2 n3 n4 n5 n6 n7 n8 n9 n10 n11 n12 n13 n14 n15) 5 (by decide)
    exact ⟨cfg_range q3 5 (by decide), w1, 6, ⟨⟨w2, rfl⟩, w3⟩, ⟨by decide, by decide⟩, by decide⟩
  · obtain ⟨w1, w2, w3⟩ := cfgW_step nm au (cfgL_len n0 n1 n2 n3 n4 n5 n6 n7 n8 n9 n10 n11 n12 n13 n14 n15) 6 (by decide)
    exact ⟨cfg_range q3 6 (by decide), w1, 7, ⟨⟨w2, rfl⟩, w3⟩, ⟨by decide, by decide⟩, by decide⟩
  · obtain ⟨w1, w2, w3⟩ := cfgW_step nm au (cfgL_len n0 n1 n2 n3 n4 n5 n6 n7 n8 n9 n10 n11 n12 n13 n14 n15) 7 (by decide)
    exact ⟨cfg_range q3 7 (by decide), w1, 8, ⟨⟨w2, rfl⟩, w3⟩, ⟨by decide, by decide⟩, by decide⟩
  · obtain ⟨w1, w2, w3⟩ := cfgW_step nm au (cfgL_len n0 n1 n2 n3 n4 n5 n6 n7 n8 n9 n10 n11 n12 n13 n14 n15) 8 (by decide)
    exact ⟨cfg_range q3 8 (by decide), w1, 9, ⟨⟨w2, rfl⟩, w3⟩, ⟨by decide, by decide⟩, by decide⟩
  · obtain ⟨w1, w2, w3⟩ := cfgW_step nm au (cfgL_len n0 n1 n2 n3 n4 n5 n6 n7 n8 n9 n10 n11 n12 n13 n14 n15) 9 (by decide)
    exact ⟨cfg_range q3 9 (by decide), w1, 10, ⟨⟨w2, rfl⟩, w3⟩, ⟨by decide, by decide⟩, by decide⟩
  · obtain ⟨w1, w2, w3⟩ := cfgW_step nm au (cfgL_len n0 n1 n2 n3 n4 n5 n6 n7 n8 n9 n10 n11 n12 n13 n14 n15) 10 (by decide)
    exact ⟨cfg_range q3 10 (by decide), w1, 11, ⟨⟨w2, rfl⟩, w3⟩, ⟨by decide, by decide⟩, by decide⟩
  · obtain ⟨w1, w2, w3⟩ := cfgW_step nm au (cfgL_len n0 n1 n2 n3 n4 n5 n6 n7 n8 n9 n10 n11 n12 n13 n14 n15) 11 (by decide)
    exact ⟨cfg_range q3 11 (by decide), w1, 12, ⟨⟨w2, rfl⟩, w3⟩, ⟨by decide, by decide⟩, by decide⟩
  · obtain ⟨w1, w2, w3⟩ := cfgW_step nm au (cfgL_len n0 n1 n2 n3 n4 n5 n6 n7 n8 n9 n10 n11 n12 n13 n14 n15) 12 (by decide)
    exact ⟨cfg_range q3 12 (by decide), w1, 13, ⟨⟨w2, rfl⟩, w3⟩, ⟨by decide, by decide⟩, by decide⟩
  · obtain ⟨w1, w2, w3⟩ := cfgW_step nm au (cfgL_len n0 n1 n2 n3 n4 n5 n6 n7 n8 n9 n10 n11 n12 n13 n14 n15) 13 (by decide)
    exact ⟨cfg_range q3 13 (by decide), w1, 14, ⟨⟨w2, rfl⟩, w3⟩, ⟨by decide, by decide⟩, by decide⟩
  · obtain ⟨w1, w2, w3⟩ := cfgW_step nm au (cfgL_len n0 n1 n2 n3 n4 n5 n6 n7 n8 n9 n10 n11 n12 n13 n14 n15) 14 (by decide)
    exact ⟨cfg_range q3 14 (by decide), w1, 15, ⟨⟨w2, rfl⟩, w3⟩, ⟨by decide, by decide⟩, by decide⟩
  · obtain ⟨w1, w2, w3⟩ := cfgW_step nm au (cfgL_len n0 n1 n2 n3 n4 n5 n6 n7 n8 n9 n10 n11 n12 n13 n14 n15) 15 (by decide)
    exact ⟨cfg_range q3 15 (by decide), w1, 16, ⟨⟨w2, rfl⟩, w3⟩, ⟨by decide, by decide⟩, by decide⟩
  · have w := cfgW_len nm au (cfgL n0 n1 n2 n3 n4 n5 n6 n7 n8 n9 n10 n11 n12 n13 n14 n15) 16 (Nat.le_refl 16)
    have w2 := cfgW_all nm au (cfgL n0 n1 n2 n3 n4 n5 n6 n7 n8 n9 n10 n11 n12 n13 n14 n15)
    rw [cfgL_len] at w2
    have w3 := flat_text_len (cfgL n0 n1 n2 n3 n4 n5 n6 n7 n8 n9 n10 n11 n12 n13 n14 n15)
    rw [cfgL_len] at w3
    have w4 := cfgAu_len au
    rw [List.take_length, w2, w]
    refine ⟨⟨by decide, ?_⟩, by rw [cfgText, if_pos h]⟩
    rw [List.length_append, List.length_append, List.length_cons]
    omega
def tb_specPrint : List Blk → List AV → Option (List Blk × AV × Prop)
  | [], [.agg [.str nm, .str au, .int .i64 n0, .int .i64 n1, .int .i64 n2, .int .i64 n3, .int .i64 n4, .int .i64 n5, .int .i64 n6, .int .i64 n7, .int .i64 n8, .int .i64 n9, .int .i64 n10, .int .i64 n11, .int .i64 n12, .int .i64 n13, .int .i64 n14, .int .i64 n15]] => some ([], .str (cfgText nm au (cfgL n0 n1 n2 n3 n4 n5 n6 n7 n8 n9 n10 n11 n12 n13 n14 n15)), (nm.length ≤ 1000000) ∧ (au.length ≤ 1000000))
  | _, _ => none
theorem tb_specPrint_ok : ∀ E args E' res p, tb_specPrint E args = some (E', res, p) → p → SpecE Tryd.prog 42 E args E' res := by
  intro E args E' res p h hp
  unfold tb_specPrint at h
  split at h
  · simp only [Option.some.injEq, Prod.mk.injEq] at h
    obtain ⟨rfl, rfl, rfl⟩ := h
    exact (specPrint _ _ _ _ _ _ _ _ _ _ _ _ _ _ _ _ _ _ hp.1 hp.2)
  · cases h
end Go.Proofs.Tryd.Cfg
end
section
set_option linter.unusedVariables false
set_option linter.unusedSimpArgs false
namespace Go.Proofs.Tryd.Cfg
open Go Go.Abs Go.Proofs Go.Mdl
def T_specParse : Tbl := fun g E args => (addT (addT (addT (addT nilT 58 Go.Proofs.Tryd.Lib.tb_specSplit) 63 Go.Proofs.Tryd.Cfg.tb_specBounds) 42 Go.Proofs.Tryd.Cfg.tb_specPrint) 20 Go.Proofs.Tryd.Dig.tb_specDec) g E args
theorem T_specParse_ok : TblOK Tryd.prog T_specParse := (addT_ok (addT_ok (addT_ok (addT_ok nilT_ok (by decide +kernel) Go.Proofs.Tryd.Lib.tb_specSplit_ok) (by decide +kernel) Go.Proofs.Tryd.Cfg.tb_specBounds_ok) (by decide +kernel) Go.Proofs.Tryd.Cfg.tb_specPrint_ok) (by decide +kernel) Go.Proofs.Tryd.Dig.tb_specDec_ok)
set_option maxRecDepth 100000 in
set_option maxHeartbeats 4000000 in
theorem specParse (s : List UInt8) (hs : s.length ≤ 1000000) : SpecE Tryd.prog 60 [] [.str s] [] (.tuple [.agg [.str (cfgRN s), .str (cfgRA s), .int .i64 (cfgRI s 0), .int .i64 (cfgRI s 1), .int .i64 (cfgRI s 2), .int .i64 (cfgRI s 3), .int .i64 (cfgRI s 4), .int .i64 (cfgRI s 5), .int .i64 (cfgRI s 6), .int .i64 (cfgRI s 7), .int .i64 (cfgRI s 8), .int .i64 (cfgRI s 9), .int .i64 (cfgRI s 10), .int .i64 (cfgRI s 11), .int .i64 (cfgRI s 12), .int .i64 (cfgRI s 13), .int .i64 (cfgRI s 14), .int .i64 (cfgRI s 15)], .int .i64 (cfgRE s)]) := by
  refine specF0 (C := T_specParse) (wr := false) (D := fun i => if i = 6 then [7, 9] else if i = 12 then [18] else []) (U := fun i => if i = 9 then some ⟨Unit, fun _ => ⟨[(0, .str s), (2, .ptr 48 0 0 1), (4, enc_strs (splitB 32 s)), (5, .ptr 96 0 0 1), (6, .ptr 112 0 0 48)], [(96, .cells 18 false cfz [.agg [.str (cfgNm s), .str (cfgA1 s), .int .i64 0, .int .i64 0, .int .i64 0, .int .i64 0, .int .i64 0, .int .i64 0, .int .i64 0, .int .i64 0, .int .i64 0, .int .i64 0, .int .i64 0, .int .i64 0, .int .i64 0, .int .i64 0, .int .i64 0, .int .i64 0]]), (48, .cells 18 false cfz [cfz]), (112, .cells 1 false (.agg [.nilp, .int .i64 0, .int .i64 0]) [.ptr 96 0 2 1, .int .i64 0, .int .i64 1, .ptr 96 0 3 1, .int .i64 0, .int .i64 1, .ptr 96 0 4 1, .int .i64 0, .int .i64 1, .ptr 96 0 5 1, .int .i64 0, .int .i64 1, .ptr 96 0 6 1, .int .i64 1, .int .i64 65536, .ptr 96 0 7 1, .int .i64 1, .int .i64 65536, .ptr 96 0 8 1, .int .i64 0, .int .i64 100, .ptr 96 0 9 1, .int .i64 0, .int .i64 1073741824, .ptr 96 0 10 1, .int .i64 1, .int .i64 16, .ptr 96 0 11 1, .int .i64 1, .int .i64 16, .ptr 96 0 12 1, .int .i64 0, .int .i64 1, .ptr 96 0 13 1, .int .i64 16, .int .i64 65536, .ptr 96 0 14 1, .int .i64 1, .int .i64 1000, .ptr 96 0 15 1, .int .i64 3, .int .i64 4096, .ptr 96 0 16 1, .int .i64 0, .int .i64 1048576, .ptr 96 0 17 1, .int .i64 0, .int .i64 1])]⟩, fun _ => (splitB 32 s).length = 18⟩ else none) (res := [.agg [.str (cfgRN s), .str (cfgRA s), .int .i64 (cfgRI s 0), .int .i64 (cfgRI s 1), .int .i64 (cfgRI s 2), .int .i64 (cfgRI s 3), .int .i64 (cfgRI s 4), .int .i64 (cfgRI s 5), .int .i64 (cfgRI s 6), .int .i64 (cfgRI s 7), .int .i64 (cfgRI s 8), .int .i64 (cfgRI s 9), .int .i64 (cfgRI s 10), .int .i64 (cfgRI s 11), .int .i64 (cfgRI s 12), .int .i64 (cfgRI s 13), .int .i64 (cfgRI s 14), .int .i64 (cfgRI s 15)], .int .i64 (cfgRE s)]) Tryd.Ty.mixed T_specParse_ok Tryd.func60 (nA := 1) (by decide +kernel) rfl (fun _ => rfl) ?_
  simp only [Tryd.f60, bodyOf, rlOf]
  rw [W_V]
  simp (config := {maxSteps := 2000000}) only [T_specParse, Go.Proofs.Tryd.Lib.tb_specSplit, Go.Proofs.Tryd.Cfg.tb_specBounds, Go.Proofs.Tryd.Cfg.tb_specPrint, Go.Proofs.Tryd.Dig.tb_specDec, go_sem, seval, cfz, cfgK, one1]
  (try simp (config := {maxSteps := 2000000}) only [gimp, impB, isT, go_sem, seval])
  have bad : cfgHas cfgTo s = false → (.agg [.str [], .str [], .int .i64 0, .int .i64 0, .int .i64 0, .int .i64 0, .int .i64 0, .int .i64 0, .int .i64 0, .int .i64 0, .int .i64 0, .int .i64 0, .int .i64 0, .int .i64 0, .int .i64 0, .int .i64 0, .int .i64 0, .int .i64 0] : AV) = .agg [.str (cfgRN s), .str (cfgRA s), .int .i64 (cfgRI s 0), .int .i64 (cfgRI s 1), .int .i64 (cfgRI s 2), .int .i64 (cfgRI s 3), .int .i64 (cfgRI s 4), .int .i64 (cfgRI s 5), .int .i64 (cfgRI s 6), .int .i64 (cfgRI s 7), .int .i64 (cfgRI s 8), .int .i64 (cfgRI s 9), .int .i64 (cfgRI s 10), .int .i64 (cfgRI s 11), .int .i64 (cfgRI s 12), .int .i64 (cfgRI s 13), .int .i64 (cfgRI s 14), .int .i64 (cfgRI s 15)] ∧ (3 : Int) = cfgRE s := fun h => by
    have hi : ∀ i, cfgRI s i = 0 := fun i => by simp [cfgRI, h]
    simp only [hi, cfgRN, cfgRA, cfgRE, h, Bool.false_eq_true, if_false, and_self]
  have ha1 : (splitB 32 s).getD 1 [] = [45] → cfgA1 s = [] := fun h => by simp only [cfgA1, cfgW1, h, if_true]
  have ha2 : ¬ (splitB 32 s).getD 1 [] = [45] → cfgA1 s = (splitB 32 s).getD 1 [] := fun h => by rw [cfgA1, cfgW1, if_neg h]
  refine ⟨by omega, fun h => bad ?_, fun h => ⟨by omega, by omega, ⟨fun h1 => ⟨(), by rw [ha1 h1]; rfl, by omega⟩, fun h1 => ⟨(), by rw [ha2 h1]; rfl, by omega⟩⟩, fun h18 => ?_⟩⟩
  · simp only [cfgHas, Bool.and_eq_false_iff, decide_eq_false_iff_not]
    exact .inl (by omega)
  clear ha1 ha2
  refine VL_inv (X := Int) (fun k => ⟨[(0, .str s), (2, .ptr 48 0 0 1), (4, enc_strs (splitB 32 s)), (5, .ptr 96 0 0 1), (6, .ptr 112 0 0 48), (27, .int .i64 k)], [(96, .cells 18 false cfz [.agg [.str (cfgNm s), .str (cfgA1 s), .int .i64 (cfgK s k 0), .int .i64 (cfgK s k 1), .int .i64 (cfgK s k 2), .int .i64 (cfgK s k 3), .int .i64 (cfgK s k 4), .int .i64 (cfgK s k 5), .int .i64 (cfgK s k 6), .int .i64 (cfgK s k 7), .int .i64 (cfgK s k 8), .int .i64 (cfgK s k 9), .int .i64 (cfgK s k 10), .int .i64 (cfgK s k 11), .int .i64 (cfgK s k 12), .int .i64 (cfgK s k 13), .int .i64 (cfgK s k 14), .int .i64 (cfgK s k 15)]]), (48, .cells 18 false cfz [cfz]), (112, .cells 1 false (.agg [.nilp, .int .i64 0, .int .i64 0]) [.ptr 96 0 2 1, .int .i64 0, .int .i64 1, .ptr 96 0 3 1, .int .i64 0, .int .i64 1, .ptr 96 0 4 1, .int .i64 0, .int .i64 1, .ptr 96 0 5 1, .int .i64 0, .int .i64 1, .ptr 96 0 6 1, .int .i64 1, .int .i64 65536, .ptr 96 0 7 1, .int .i64 1, .int .i64 65536, .ptr 96 0 8 1, .int .i64 0, .int .i64 100, .ptr 96 0 9 1, .int .i64 0, .int .i64 1073741824, .ptr 96 0 10 1, .int .i64 1, .int .i64 16, .ptr 96 0 11 1, .int .i64 1, .int .i64 16, .ptr 96 0 12 1, .int .i64 0, .int .i64 1, .ptr 96 0 13 1, .int .i64 16, .int .i64 65536, .ptr 96 0 14 1, .int .i64 1, .int .i64 1000, .ptr 96 0 15 1, .int .i64 3, .int .i64 4096, .ptr 96 0 16 1, .int .i64 0, .int .i64 1048576, .ptr 96 0 17 1, .int .i64 0, .int .i64 1])]⟩) (fun k => 0 ≤ k ∧ k ≤ 16) (fun k => (16 - k).toNat) 0 ?_ ?_ ?_
  · simp only [T_specParse, Go.Proofs.Tryd.Lib.tb_specSplit, Go.Proofs.Tryd.Cfg.tb_specBounds, Go.Proofs.Tryd.Cfg.tb_specPrint, Go.Proofs.Tryd.Dig.tb_specDec, go_sem, seval, cfz, cfgK, one1]
  · exact ⟨by decide, by decide⟩
  rintro k ⟨hk0, hk⟩
  have hc : k = 0 ∨ k = 1 ∨ k = 2 ∨ k = 3 ∨ k = 4 ∨ k = 5 ∨ k = 6 ∨ k = 7 ∨ k = 8 ∨ k = 9 ∨ k = 10 ∨ k = 11 ∨ k = 12 ∨ k = 13 ∨ k = 14 ∨ k = 15 ∨ k = 16 := by omega
  rcases hc with rfl | rfl | rfl | rfl | rfl | rfl | rfl | rfl | rfl | rfl | rfl | rfl | rfl | rfl | rfl | rfl | rfl
  · simp (config := {maxSteps := 2000000}) only [T_specParse, Go.Proofs.Tryd.Lib.tb_specSplit, Go.Proofs.Tryd.Cfg.tb_specBounds, Go.Proofs.Tryd.Cfg.tb_specPrint, Go.Proofs.Tryd.Dig.tb_specDec, go_sem, seval, cfz, cfgK, one1]
    (try simp (config := {maxSteps := 2000000}) only [gimp, impB, isT, go_sem, seval])
    exact ⟨by omega, 1, ⟨rfl, rfl⟩, ⟨by decide, by decide⟩, by decide⟩
  · simp (config := {maxSteps := 2000000}) only [T_specParse, Go.Proofs.Tryd.Lib.tb_specSplit, Go.Proofs.Tryd.Cfg.tb_specBounds, Go.Proofs.Tryd.Cfg.tb_specPrint, Go.Proofs.Tryd.Dig.tb_specDec, go_sem, seval, cfz, cfgK, one1]
    (try simp (config := {maxSteps := 2000000}) only [gimp, impB, isT, go_sem, seval])
    exact ⟨by omega, 2, ⟨rfl, rfl⟩, ⟨by decide, by decide⟩, by decide⟩
  · simp (config := {maxSteps := 2000000}) only [T_specParse, Go.Proofs.Tryd.Lib.tb_specSplit, Go.Proofs.Tryd.Cfg.tb_specBounds, Go.Proofs.Tryd.Cfg.tb_specPrint, Go.Proofs.Tryd.Dig.tb_specDec, go_sem, seval, cfz, cfgK, one1]
    (try simp (config := {maxSteps := 2000000}) only [gimp, impB, isT, go_sem, seval])
    exact ⟨by omega, 3, ⟨rfl, rfl⟩, ⟨by decide, by decide⟩, by decide⟩
  · simp (config := {maxSteps := 2000000}) only [T_specParse, Go.Proofs.Tryd.Lib.tb_specSplit, Go.Proofs.Tryd.Cfg.tb_specBounds, Go.Proofs.Tryd.Cfg.tb_specPrint, Go.Proofs.Tryd.Dig.tb_specDec, go_sem, seval, cfz, cfgK, one1]
    (try simp (config := {maxSteps := 2000000}) only [gimp, impB, isT, go_sem, seval])
    exact ⟨by omega, 4, ⟨rfl, rfl⟩, ⟨by decide, by decide⟩, by decide⟩
  · simp (config := {maxSteps := 2000000}) only [T_specParse, Go.Proofs.Tryd.Lib.tb_specSplit, Go.Proofs.Tryd.Cfg.tb_specBounds, Go.Proofs.Tryd.Cfg.tb_specPrint, Go.Proofs.Tryd.Dig.tb_specDec, go_sem, seval, cfz, cfgK, one1]
    (try simp (config := {maxSteps := 2000000}) only [gimp, impB, isT, go_sem, seval])
    exact ⟨by omega, 5, ⟨rfl, rfl⟩, ⟨by decide, by decide⟩, by decide⟩
  · simp (config := {maxSteps := 2000000}) only [T_specParse, Go.Proofs.Tryd.Lib.tb_specSplit, Go.Proofs.Tryd.Cfg.tb_specBounds, Go.Proofs.Tryd.Cfg.tb_specPrint, Go.Proofs.Tryd.Dig.tb_specDec, go_sem, seval, cfz, cfgK, one1]
    (try simp (config := {maxSteps := 2000000}) only [gimp, impB, isT, go_sem, seval])
    exact ⟨by omega, 6, ⟨rfl, rfl⟩, ⟨by decide, by decide⟩, by decide⟩
  · simp (config := {maxSteps := 2000000}) only [T_specParse, Go.Proofs.Tryd.Lib.tb_specSplit, Go.Proofs.Tryd.Cfg.tb_specBounds, Go.Proofs.Tryd.Cfg.tb_specPrint, Go.Proofs.Tryd.Dig.tb_specDec, go_sem, seval, cfz, cfgK, one1]
    (try simp (config := {maxSteps := 2000000}) only [gimp, impB, isT, go_sem, seval])
    exact ⟨by omega, 7, ⟨rfl, rfl⟩, ⟨by decide, by decide⟩, by decide⟩
  · simp (config := {maxSteps := 2000000}) only [T_specParse, Go.Proofs.Tryd.Lib.tb_specSplit, Go.Proofs.Tryd.Cfg.tb_specBounds, Go.Proofs.Tryd.Cfg.tb_specPrint, Go.Proofs.Tryd.Dig.tb_specDec, go_sem, seval, cfz, cfgK, one1]
    (try simp (config := {maxSteps := 2000000}) only [gimp, impB, isT, go_sem, seval])
    exact ⟨by omega, 8, ⟨rfl, rfl⟩, ⟨by decide, by decide⟩, by decide⟩
  · simp (config := {maxSteps := 2000000}) only [T_specParse, Go.Proofs.Tryd.Lib.tb_specSplit, Go.Proofs.Tryd.Cfg.tb_specBounds, Go.Proofs.Tryd.Cfg.tb_specPrint, Go.Proofs.Tryd.Dig.tb_specDec, go_sem, seval, cfz, cfgK, one1]
    (try simp (config := {maxSteps := 2000000}) only [gimp, impB, isT, go_sem, seval])
    exact ⟨by omega, 9, ⟨rfl, rfl⟩, ⟨by decide, by decide⟩, by decide⟩
  · simp (config := {maxSteps := 2000000}) only [T_specParse, Go.Proofs.Tryd.Lib.tb_specSplit, Go.Proofs.Tryd.Cfg.tb_specBounds, Go.Proofs.Tryd.Cfg.tb_specPrint, Go.Proofs.Tryd.Dig.tb_specDec, go_sem, seval, cfz, cfgK, one1]
    (try simp (config := {maxSteps := 2000000}) only [gimp, impB, isT, go_sem, seval])
    exact ⟨by omega, 10, ⟨rfl, rfl⟩, ⟨by decide, by decide⟩, by decide⟩
  · simp (config := {maxSteps := 2000000}) only [T_specParse, Go.Proofs.Tryd.Lib.tb_specSplit, Go.Proofs.Tryd.Cfg.tb_specBounds, Go.Proofs.Tryd.Cfg.tb_specPrint, Go.Proofs.Tryd.Dig.tb_specDec, go_sem, seval, cfz, cfgK, one1]
    (try simp (config := {maxSteps := 2000000}) only [gimp, impB, isT, go_sem, seval])
    exact ⟨by omega, 11, ⟨rfl, rfl⟩, ⟨by decide, by decide⟩, by decide⟩
  · simp (config := {maxSteps := 2000000}) only [T_specParse, Go.Proofs.Tryd.Lib.tb_specSplit, Go.Proofs.Tryd.Cfg.tb_specBounds, Go.Proofs.Tryd.Cfg.tb_specPrint, Go.Proofs.Tryd.Dig.tb_specDec, go_sem, seval, cfz, cfgK, one1]
    (try simp (config := {maxSteps := 2000000}) only [gimp, impB, isT, go_sem, seval])
    exact ⟨by omega, 12, ⟨rfl, rfl⟩, ⟨by decide, by decide⟩, by decide⟩
  · simp (config := {maxSteps := 2000000}) only [T_specParse, Go.Proofs.Tryd.Lib.tb_specSplit, Go.Proofs.Tryd.Cfg.tb_specBounds, Go.Proofs.Tryd.Cfg.tb_specPrint, Go.Proofs.Tryd.Dig.tb_specDec, go_sem, seval, cfz, cfgK, one1]
    (try simp (config := {maxSteps := 2000000}) only [gimp, impB, isT, go_sem, seval])
    exact ⟨by omega, 13, ⟨rfl, rfl⟩, ⟨by decide, by decide⟩, by decide⟩
  · simp (config := {maxSteps := 2000000}) only [T_specParse, Go.Proofs.Tryd.Lib.tb_specSplit, Go.Proofs.Tryd.Cfg.tb_specBounds, Go.Proofs.Tryd.Cfg.tb_specPrint, Go.Proofs.Tryd.Dig.tb_specDec, go_sem, seval, cfz, cfgK, one1]
    (try simp (config := {maxSteps := 2000000}) only [gimp, impB, isT, go_sem, seval])
    exact ⟨by omega, 14, ⟨rfl, rfl⟩, ⟨by decide, by decide⟩, by decide⟩
  · simp (config := {maxSteps := 2000000}) only [T_specParse, Go.Proofs.Tryd.Lib.tb_specSplit, Go.Proofs.Tryd.Cfg.tb_specBounds, Go.Proofs.Tryd.Cfg.tb_specPrint, Go.Proofs.Tryd.Dig.tb_specDec, go_sem, seval, cfz, cfgK, one1]
    (try simp (config := {maxSteps := 2000000}) only [gimp, impB, isT, go_sem, seval])
    exact ⟨by omega, 15, ⟨rfl, rfl⟩, ⟨by decide, by decide⟩, by decide⟩
  · simp (config := {maxSteps := 2000000}) only [T_specParse, Go.Proofs.Tryd.Lib.tb_specSplit, Go.Proofs.Tryd.Cfg.tb_specBounds, Go.Proofs.Tryd.Cfg.tb_specPrint, Go.Proofs.Tryd.Dig.tb_specDec, go_sem, seval, cfz, cfgK, one1]
    (try simp (config := {maxSteps := 2000000}) only [gimp, impB, isT, go_sem, seval])
    exact ⟨by omega, 16, ⟨rfl, rfl⟩, ⟨by decide, by decide⟩, by decide⟩
  · simp (config := {maxSteps := 2000000}) only [T_specParse, Go.Proofs.Tryd.Lib.tb_specSplit, Go.Proofs.Tryd.Cfg.tb_specBounds, Go.Proofs.Tryd.Cfg.tb_specPrint, Go.Proofs.Tryd.Dig.tb_specDec, go_sem, seval, cfz, cfgK, one1]
    (try simp (config := {maxSteps := 2000000}) only [gimp, impB, isT, go_sem, seval])
    have l0 : (cfgNm s).length ≤ s.length := getD_split_len 32 s 0
    have l1 : (cfgA1 s).length ≤ s.length := by
      unfold cfgA1
      split
      · simp
      · exact getD_split_len 32 s 1
    refine ⟨⟨fun _ => by omega, fun _ => by omega⟩, fun hb => bad ?_, fun h1 h2 => ?_⟩
    · simp only [cfgHas, Bool.and_eq_false_iff, Bool.not_eq_false', decide_eq_false_iff_not, decide_eq_true_eq]
      exact .inr hb
    · have hh : cfgHas cfgTo s = true := by
        simp only [cfgHas, Bool.and_eq_true, Bool.not_eq_true', decide_eq_false_iff_not, decide_eq_true_eq]
        exact ⟨h18, h1, h2⟩
      simp only [cfgRN, cfgRA, cfgRI, cfgRE, hh, if_true]
      exact ⟨trivial, trivial⟩
def tb_specParse : List Blk → List AV → Option (List Blk × AV × Prop)
  | [], [.str s] => some ([], .tuple [.agg [.str (cfgRN s), .str (cfgRA s), .int .i64 (cfgRI s 0), .int .i64 (cfgRI s 1), .int .i64 (cfgRI s 2), .int .i64 (cfgRI s 3), .int .i64 (cfgRI s 4), .int .i64 (cfgRI s 5), .int .i64 (cfgRI s 6), .int .i64 (cfgRI s 7), .int .i64 (cfgRI s 8), .int .i64 (cfgRI s 9), .int .i64 (cfgRI s 10), .int .i64 (cfgRI s 11), .int .i64 (cfgRI s 12), .int .i64 (cfgRI s 13), .int .i64 (cfgRI s 14), .int .i64 (cfgRI s 15)], .int .i64 (cfgRE s)], (s.length ≤ 1000000))
  | _, _ => none
theorem tb_specParse_ok : ∀ E args E' res p, tb_specParse E args = some (E', res, p) → p → SpecE Tryd.prog 60 E args E' res := by
  intro E args E' res p h hp
  unfold tb_specParse at h
  split at h
  · simp only [Option.some.injEq, Prod.mk.injEq] at h
    obtain ⟨rfl, rfl, rfl⟩ := h
    exact (specParse _ hp)
  · cases h
end Go.Proofs.Tryd.Cfg
end
section
set_option linter.unusedVariables false
set_option linter.unusedSimpArgs false
namespace Go.Proofs.Tryd.Prs
open Go Go.Abs Go.Proofs Go.Mdl
def T_specParse : Tbl := fun g E args => (addT (addT (addT (addT (addT (addT (addT nilT 31 Go.Proofs.Tryd.Lib.tb_specCutSuffix) 58 Go.Proofs.Tryd.Lib.tb_specSplit) 59 Go.Proofs.Tryd.Lib.tb_specCount1) 60 Go.Proofs.Tryd.Cfg.tb_specParse) 20 Go.Proofs.Tryd.Dig.tb_specDec) 26 Go.Proofs.Tryd.Dig.tb_specText) 61 Go.Proofs.Tryd.Evt.tb_specEvent) g E args
theorem T_specParse_ok : TblOK Tryd.prog T_specParse := (addT_ok (addT_ok (addT_ok (addT_ok (addT_ok (addT_ok (addT_ok nilT_ok (by decide +kernel) Go.Proofs.Tryd.Lib.tb_specCutSuffix_ok) (by decide +kernel) Go.Proofs.Tryd.Lib.tb_specSplit_ok) (by decide +kernel) Go.Proofs.Tryd.Lib.tb_specCount1_ok) (by decide +kernel) Go.Proofs.Tryd.Cfg.tb_specParse_ok) (by decide +kernel) Go.Proofs.Tryd.Dig.tb_specDec_ok) (by decide +kernel) Go.Proofs.Tryd.Dig.tb_specText_ok) (by decide +kernel) Go.Proofs.Tryd.Evt.tb_specEvent_ok)
set_option maxRecDepth 100000 in
set_option maxHeartbeats 4000000 in
theorem specParse (s : List UInt8) (hs : s.length ≤ 4000) : SpecE Tryd.prog 41 [] [.str s] [] (.tuple [.agg [.str (prNm s), .str (prAu s), .int .i64 (prI s 0), .int .i64 (prI s 1), .int .i64 (prI s 2), .int .i64 (prI s 3), .int .i64 (prI s 4), .int .i64 (prI s 5), .int .i64 (prI s 6), .int .i64 (prI s 7), .int .i64 (prI s 8), .int .i64 (prI s 9), .int .i64 (prI s 10), .int .i64 (prI s 11), .int .i64 (prI s 12), .int .i64 (prI s 13), .int .i64 (prI s 14), .int .i64 (prI s 15), .int .i64 (prNow s), .list 5 ((prEvs s).map enc_ev)], .int .i64 (prN s), .int .i64 (prE s)]) := by
  refine specF0 (C := T_specParse) (wr := false) (D := fun i => if i = 13 then [56] else []) (U := fun _ => none) (res := [.agg [.str (prNm s), .str (prAu s), .int .i64 (prI s 0), .int .i64 (prI s 1), .int .i64 (prI s 2), .int .i64 (prI s 3), .int .i64 (prI s 4), .int .i64 (prI s 5), .int .i64 (prI s 6), .int .i64 (prI s 7), .int .i64 (prI s 8), .int .i64 (prI s 9), .int .i64 (prI s 10), .int .i64 (prI s 11), .int .i64 (prI s 12), .int .i64 (prI s 13), .int .i64 (prI s 14), .int .i64 (prI s 15), .int .i64 (prNow s), .list 5 ((prEvs s).map enc_ev)], .int .i64 (prN s), .int .i64 (prE s)]) Tryd.Ty.mixed T_specParse_ok Tryd.func41 (nA := 1) (by decide +kernel) rfl (fun _ => rfl) ?_
  simp only [Tryd.f41, bodyOf, rlOf]
  rw [W_V]
  simp (config := {maxSteps := 2000000}) only [T_specParse, Go.Proofs.Tryd.Lib.tb_specCutSuffix, Go.Proofs.Tryd.Lib.tb_specSplit, Go.Proofs.Tryd.Lib.tb_specCount1, Go.Proofs.Tryd.Cfg.tb_specParse, Go.Proofs.Tryd.Dig.tb_specDec, Go.Proofs.Tryd.Dig.tb_specText, Go.Proofs.Tryd.Evt.tb_specEvent, go_sem, seval, scz, evz, scA]
  (try simp (config := {maxSteps := 2000000}) only [gimp, impB, isT, go_sem, seval])
  have hl := prL_len s
  have hmx : (4000 : Nat) ≤ maxLen := by decide
  have ht := trimSuffix_len s [10]
  have w0 := prW_len s 0
  have w1 := prW_len s 1
  simp only [show splitB 10 (Lib.trimSuffix s [10]) = prL s from rfl, show (prL s).getD 0 [] = prW s 0 from rfl, show (prL s).getD 1 [] = prW s 1 from rfl]
  have nr : numErr 10 1099511627776 (prW s 1) = 0 → 0 ≤ numVal 10 1099511627776 (prW s 1) ∧ numVal 10 1099511627776 (prW s 1) ≤ 1099511627776 := fun h => by have := numVal_rngS 10 1099511627776 (prW s 1) (.inl rfl); omega
  have hsh : ¬ (Lib.hasSuffix s [10] = false ∨ (prL s).length < 2) → prShort s = false := fun h => by rw [← Bool.not_eq_true, prShort_iff]; exact h
  refine ⟨by omega, by omega, fun h => ?_, fun h1 h2 => ⟨fun h => by omega, fun _ => ⟨by omega, by omega, fun h => ?_, fun h3 => ⟨by omega, ⟨fun h => by have := nr h; omega, fun h => by have := nr h; omega⟩, fun _ => by omega, fun h => ?_, fun h4 h5 => ⟨by omega, ?_⟩⟩⟩⟩⟩
  · have hs' : prShort s = true := (prShort_iff s).2 (by rcases h with h | h; exact .inl h; exact .inr (by omega))
    obtain ⟨a, b⟩ := pr_short hs'
    obtain ⟨e1, e2, e3, e4, e5, e6⟩ := pr_no a
    simp [e1, e2, e3, e4, e5, e6, b, hs']
  all_goals have hs' : prShort s = false := hsh (by rw [h1]; simp only [Bool.true_eq_false, false_or]; omega)
  · have hc : cfgHas cfgTo (prW s 0) = false := by rw [← Bool.not_eq_true, ← cfgRE_iff]; exact h
    obtain ⟨a, b⟩ := pr_cfg hs' hc
    obtain ⟨e1, e2, e3, e4, e5, e6⟩ := pr_no a
    simp [e1, e2, e3, e4, e5, e6, b, hs']
  all_goals have hc : cfgHas cfgTo (prW s 0) = true := (cfgRE_iff _).1 h3
  · have hb : prNowB s = false := by
      rw [← Bool.not_eq_true, prNowB_iff]
      rintro ⟨x, y⟩
      rcases h with h | h
      · exact h x
      · exact h y
    obtain ⟨a, b⟩ := pr_now hs' hc hb
    obtain ⟨e1, e2, e3, e4, e5, e6⟩ := pr_no a
    simp [e1, e2, e3, e4, e5, e6, b, hs']
  have hb : prNowB s = true := (prNowB_iff s).2 ⟨h4, h5⟩
  have hr : (prRows s).length = (prL s).length - 2 := List.length_drop ..
  have row := fun k => @pr_row s hs' hc hb k
  have yes := pr_yes hs' hc hb
  rw [show numVal 10 1099511627776 (prW s 1) = prNowN s from rfl] at *
  have rl := row_len s
  simp only [show List.drop 2 (prL s) = prRows s from rfl] at *
  have bad : ∀ k : Nat, k < (prRows s).length → ((prRows s).take k).all evB = true → evB ((prRows s).getD k []) = false → ([] = prNm s ∧ [] = prAu s ∧ 0 = prI s 0 ∧ 0 = prI s 1 ∧ 0 = prI s 2 ∧ 0 = prI s 3 ∧ 0 = prI s 4 ∧ 0 = prI s 5 ∧ 0 = prI s 6 ∧ 0 = prI s 7 ∧ 0 = prI s 8 ∧ 0 = prI s 9 ∧ 0 = prI s 10 ∧ 0 = prI s 11 ∧ 0 = prI s 12 ∧ 0 = prI s 13 ∧ 0 = prI s 14 ∧ 0 = prI s 15 ∧ 0 = prNow s ∧ List.map enc_ev (prEvs s) = []) ∧ ((k : Int) + 3 = prN s) ∧ 3 = prE s := fun k h1 h2 h3 => by
    obtain ⟨a, b⟩ := row k h1 h2 h3
    obtain ⟨e1, e2, e3, e4, e5, e6⟩ := pr_no a
    simp [e1, e2, e3, e4, e5, e6, b, hs']
  refine VL_N 1 ?_
  rw [VN_succ]
  simp (config := {maxSteps := 2000000}) only [T_specParse, Go.Proofs.Tryd.Lib.tb_specCutSuffix, Go.Proofs.Tryd.Lib.tb_specSplit, Go.Proofs.Tryd.Lib.tb_specCount1, Go.Proofs.Tryd.Cfg.tb_specParse, Go.Proofs.Tryd.Dig.tb_specDec, Go.Proofs.Tryd.Dig.tb_specText, Go.Proofs.Tryd.Evt.tb_specEvent, go_sem, seval, scz, evz, scA]
  (try simp (config := {maxSteps := 2000000}) only [gimp, impB, isT, go_sem, seval])
  refine ⟨fun hlt => ⟨hlt, by have := rl 0; omega, fun hf => bad 0 (by omega) (by simp) hf, fun hf => ?_⟩, fun hge => ?_⟩
  · refine VN_inv (X := Nat) (fun k => ⟨[(2, .ptr 48 0 0 1), (7, enc_strs (prL s)), (8, .ptr 144 0 0 1), (69, enc_strs (prRows s)), (70, .int .i64 (prRows s).length), (71, .int .i64 k)], [(48, .cells 20 false scz [scz]), (144, .cells 20 false scz [scA (prW s 0) (prNowN s) (.ref 1456 0 k k)]), (1456, .cells 5 false evz (((prRows s).take k).map fun r => enc_ev (evS r)))]⟩) (fun k => 1 ≤ k ∧ k ≤ (prRows s).length ∧ ((prRows s).take k).all evB = true) (fun k => (prRows s).length - k) 1 ?_ ?_ ?_
    · simp only [T_specParse, Go.Proofs.Tryd.Lib.tb_specCutSuffix, Go.Proofs.Tryd.Lib.tb_specSplit, Go.Proofs.Tryd.Lib.tb_specCount1, Go.Proofs.Tryd.Cfg.tb_specParse, Go.Proofs.Tryd.Dig.tb_specDec, Go.Proofs.Tryd.Dig.tb_specText, Go.Proofs.Tryd.Evt.tb_specEvent, go_sem, seval, scz, evz, scA]
      have := rows_snoc (prRows s) (k := 0) (by omega)
      exact this.symm
    · exact ⟨Nat.le_refl _, by omega, rows_all _ (by omega) (by simp) hf⟩
    rintro k ⟨k1, k2, k3⟩
    simp (config := {maxSteps := 2000000}) only [T_specParse, Go.Proofs.Tryd.Lib.tb_specCutSuffix, Go.Proofs.Tryd.Lib.tb_specSplit, Go.Proofs.Tryd.Lib.tb_specCount1, Go.Proofs.Tryd.Cfg.tb_specParse, Go.Proofs.Tryd.Dig.tb_specDec, Go.Proofs.Tryd.Dig.tb_specText, Go.Proofs.Tryd.Evt.tb_specEvent, go_sem, seval, scz, evz, scA]
    (try simp (config := {maxSteps := 2000000}) only [gimp, impB, isT, go_sem, seval])
    have ln : (List.take k (prRows s)).length = k := by rw [List.length_take]; omega
    refine ⟨fun hlt => ⟨by omega, by have := rl k; omega, fun hf => ⟨by omega, bad k (by omega) k3 hf⟩, fun hf => ⟨by omega, by omega, k + 1, ?_, ⟨by omega, by omega, rows_all _ (by omega) k3 hf⟩, by omega⟩⟩, fun hge => ?_⟩
    · exact ⟨by omega, rfl, (rows_snoc (prRows s) (by omega)).symm⟩
    have ek : k = (prRows s).length := by omega
    rw [ek, List.take_length] at k3
    obtain ⟨y0, y1, y2, y3, y4, y5, y6, y7⟩ := yes k3
    rw [ek, List.take_length, List.take_length]
    simp only [y1, y2, y3, y4, y5, y6, y7, List.map_map, and_true, true_and]
    rfl
  · have e0 : (prRows s).length = 0 := by omega
    have en := List.eq_nil_of_length_eq_zero e0
    obtain ⟨y0, y1, y2, y3, y4, y5, y6, y7⟩ := yes (by rw [en]; rfl)
    simp only [y1, y2, y3, y4, y5, y6, y7, en, List.map_nil, and_self, and_true]
def tb_specParse : List Blk → List AV → Option (List Blk × AV × Prop)
  | [], [.str s] => some ([], .tuple [.agg [.str (prNm s), .str (prAu s), .int .i64 (prI s 0), .int .i64 (prI s 1), .int .i64 (prI s 2), .int .i64 (prI s 3), .int .i64 (prI s 4), .int .i64 (prI s 5), .int .i64 (prI s 6), .int .i64 (prI s 7), .int .i64 (prI s 8), .int .i64 (prI s 9), .int .i64 (prI s 10), .int .i64 (prI s 11), .int .i64 (prI s 12), .int .i64 (prI s 13), .int .i64 (prI s 14), .int .i64 (prI s 15), .int .i64 (prNow s), .list 5 ((prEvs s).map enc_ev)], .int .i64 (prN s), .int .i64 (prE s)], (s.length ≤ 4000))
  | _, _ => none
theorem tb_specParse_ok : ∀ E args E' res p, tb_specParse E args = some (E', res, p) → p → SpecE Tryd.prog 41 E args E' res := by
  intro E args E' res p h hp
  unfold tb_specParse at h
  split at h
  · simp only [Option.some.injEq, Prod.mk.injEq] at h
    obtain ⟨rfl, rfl, rfl⟩ := h
    exact (specParse _ hp)
  · cases h
end Go.Proofs.Tryd.Prs
end
section
set_option linter.unusedVariables false
set_option linter.unusedSimpArgs false
namespace Go.Proofs.Tryd.ScpL
open Go Go.Abs Go.Proofs Go.Mdl
def T_specLives : Tbl := fun g E args => (addT (addT (addT (addT nilT 13 Go.Proofs.Tryd.Scr.tb_specUnquote) 43 Go.Proofs.Tryd.Cfg.tb_specUsual) 42 Go.Proofs.Tryd.Cfg.tb_specPrint) 41 Go.Proofs.Tryd.Prs.tb_specParse) g E args
theorem T_specLives_ok : TblOK Tryd.prog T_specLives := (addT_ok (addT_ok (addT_ok (addT_ok nilT_ok (by decide +kernel) Go.Proofs.Tryd.Scr.tb_specUnquote_ok) (by decide +kernel) Go.Proofs.Tryd.Cfg.tb_specUsual_ok) (by decide +kernel) Go.Proofs.Tryd.Cfg.tb_specPrint_ok) (by decide +kernel) Go.Proofs.Tryd.Prs.tb_specParse_ok)
set_option maxRecDepth 100000 in
set_option maxHeartbeats 4000000 in
theorem specLives : SpecE Tryd.prog 17 [] [] [] (.bool true) := by
  refine specF0 (C := T_specLives) (wr := false) (D := fun _ => []) (U := fun _ => none) (res := [.bool true]) Tryd.Ty.mixed T_specLives_ok Tryd.func17 (nA := 0) (by decide +kernel) rfl (fun _ => rfl) ?_
  simp only [Tryd.f17, bodyOf, rlOf]
  rw [W_V]
  simp (config := {maxSteps := 2000000}) only [T_specLives, Go.Proofs.Tryd.Scr.tb_specUnquote, Go.Proofs.Tryd.Cfg.tb_specUsual, Go.Proofs.Tryd.Cfg.tb_specPrint, Go.Proofs.Tryd.Prs.tb_specParse, go_sem, seval]
  (try simp (config := {maxSteps := 2000000}) only [gimp, impB, isT, go_sem, seval])
  decide +kernel
def tb_specLives : List Blk → List AV → Option (List Blk × AV × Prop)
  | [], [] => some ([], .bool true, True)
  | _, _ => none
theorem tb_specLives_ok : ∀ E args E' res p, tb_specLives E args = some (E', res, p) → p → SpecE Tryd.prog 17 E args E' res := by
  intro E args E' res p h hp
  unfold tb_specLives at h
  split at h
  · simp only [Option.some.injEq, Prod.mk.injEq] at h
    obtain ⟨rfl, rfl, rfl⟩ := h
    exact specLives
  · cases h
end Go.Proofs.Tryd.ScpL
end
section
set_option linter.unusedVariables false
set_option linter.unusedSimpArgs false
namespace Go.Proofs.Tryd.ScrL
open Go Go.Abs Go.Proofs Go.Mdl
def T_specLawQuotes : Tbl := fun g E args => (addT (addT (addT (addT (addT nilT 13 Go.Proofs.Tryd.Scr.tb_specUnquote) 14 Go.Proofs.Tryd.ScrR.tb_specUnquote) 15 Go.Proofs.Tryd.Scr.tb_specQuote) 16 Go.Proofs.Tryd.ScrR.tb_specQuote) 17 Go.Proofs.Tryd.ScpL.tb_specLives) g E args
theorem T_specLawQuotes_ok : TblOK Tryd.prog T_specLawQuotes := (addT_ok (addT_ok (addT_ok (addT_ok (addT_ok nilT_ok (by decide +kernel) Go.Proofs.Tryd.Scr.tb_specUnquote_ok) (by decide +kernel) Go.Proofs.Tryd.ScrR.tb_specUnquote_ok) (by decide +kernel) Go.Proofs.Tryd.Scr.tb_specQuote_ok) (by decide +kernel) Go.Proofs.Tryd.ScrR.tb_specQuote_ok) (by decide +kernel) Go.Proofs.Tryd.ScpL.tb_specLives_ok)
set_option maxRecDepth 100000 in
set_option maxHeartbeats 4000000 in
theorem specLawQuotes (s : List UInt8) (hs : s.length ≤ maxLen) : SpecE Tryd.prog 5 [] [.str s] [] (.bool true) := by
  refine specF0 (C := T_specLawQuotes) (wr := false) (D := fun _ => []) (U := fun _ => none) (res := [.bool true]) Tryd.Ty.mixed T_specLawQuotes_ok Tryd.func5 (nA := 1) (by decide +kernel) rfl (fun _ => rfl) ?_
  simp only [Tryd.f5, bodyOf, rlOf]
  rw [W_V]
  simp (config := {maxSteps := 2000000}) only [T_specLawQuotes, Go.Proofs.Tryd.Scr.tb_specUnquote, Go.Proofs.Tryd.ScrR.tb_specUnquote, Go.Proofs.Tryd.Scr.tb_specQuote, Go.Proofs.Tryd.ScrR.tb_specQuote, Go.Proofs.Tryd.ScpL.tb_specLives, go_sem, seval]
  (try simp (config := {maxSteps := 2000000}) only [gimp, impB, isT, go_sem, seval])
  have e : (s.take 1000).length ≤ 1000 := by rw [List.length_take]; omega
  have q := quote_len (s.take 1000)
  exact ⟨by omega, by omega, by omega, by omega, by omega, (unqB_quote _).2, (unqB_quote _).1⟩
end Go.Proofs.Tryd.ScrL
end
