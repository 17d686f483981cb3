import Derived.Test.YtlkfjkimnkhelaaGreatShVE
import Derived.Test.YtlkfjkimnkhelaaGreatRows
import Derived.JoinedOf
import Derived.KernelRfl
import Derived.Shelf.Strings.Builder1
import Derived.Shelf.Strings.Builder2
import Derived.Shelf.Strings.OnBuilder
import Derived.Shelf.Small.Utf8
import Derived.Shelf.Small.Strs
import Derived.Shelf.Small.Wraps
import Derived.Shelf.Strings.BuilderF
import Derived.Shelf.Strings.BuilderK
import Derived.Shelf.Strings.Builder2Cap
import Derived.Shelf.Strings.Search1
import Derived.Shelf.Strings.Search2
import Derived.Shelf.Strings.Cut
import Derived.Shelf.LaysM
import Derived.Shelf.Strings.Shaped
import Derived.Shelf.Strings.LastIndex
import Derived.Shelf.Strings.Prefix
import Derived.Shelf.Strings.Runes
import Derived.Shelf.Strings.IndexAny
import Derived.Shelf.Strings.AsciiSet
import Derived.Shelf.Strings.IndexAnyAll
import Derived.Shelf.Bits.Mul64
import Derived.Shelf.Strings.Repeat
import Derived.Shelf.Strings.BuilderCap
import Derived.Ground.PaProg
import Derived.Shelf.Path.Small
import Derived.Test.YtlkfjkimnkhelaaGreatProg
import Derived.Laws.Runes
section
set_option linter.unusedVariables false
set_option maxRecDepth 100000
namespace Go.Proofs.YtlkfjkimnkhelaaGreat.Facts
open Go Go.Proofs
theorem andT {a b : Bool} (ha : a = true) (hb : b = true) : (a && b) = true := by rw [ha, hb]; rfl
theorem init : Tryz.pinned.checked.prog.initOrder.toList = [Char.ofNat 104, Char.ofNat 97, Char.ofNat 114, Char.ofNat 110, Char.ofNat 101, Char.ofNat 115, Char.ofNat 115, Char.ofNat 32, Char.ofNat 49, Char.ofNat 48, Char.ofNat 98, Char.ofNat 53, Char.ofNat 48, Char.ofNat 55, Char.ofNat 52, Char.ofNat 98, Char.ofNat 99, Char.ofNat 51, Char.ofNat 52, Char.ofNat 101, Char.ofNat 55, Char.ofNat 101, Char.ofNat 56, Char.ofNat 48, Char.ofNat 50, Char.ofNat 53, Char.ofNat 55, Char.ofNat 97, Char.ofNat 51, Char.ofNat 50, Char.ofNat 98, Char.ofNat 56, Char.ofNat 51, Char.ofNat 51, Char.ofNat 102, Char.ofNat 56, Char.ofNat 98, Char.ofNat 57, Char.ofNat 100, Char.ofNat 98, Char.ofNat 102, Char.ofNat 52, Char.ofNat 55, Char.ofNat 53, Char.ofNat 54, Char.ofNat 97, Char.ofNat 49, Char.ofNat 101, Char.ofNat 56, Char.ofNat 50, Char.ofNat 54, Char.ofNat 52, Char.ofNat 56, Char.ofNat 50, Char.ofNat 101, Char.ofNat 52, Char.ofNat 50, Char.ofNat 48, Char.ofNat 102, Char.ofNat 102, Char.ofNat 57, Char.ofNat 97, Char.ofNat 98, Char.ofNat 102, Char.ofNat 49, Char.ofNat 53, Char.ofNat 101, Char.ofNat 97, Char.ofNat 53, Char.ofNat 55, Char.ofNat 100, Char.ofNat 49, Char.ofNat 32, Char.ofNat 99, Char.ofNat 117, Char.ofNat 116, Char.ofNat 32, Char.ofNat 97, Char.ofNat 116, Char.ofNat 32, Char.ofNat 97, Char.ofNat 98, Char.ofNat 117, Char.ofNat 116, Char.ofNat 109, Char.ofNat 101, Char.ofNat 110, Char.ofNat 116, Char.ofNat 47, Char.ofNat 97, Char.ofNat 98, Char.ofNat 117, Char.ofNat 116, Char.ofNat 109, Char.ofNat 101, Char.ofNat 110, Char.ofNat 116, Char.ofNat 108, Char.ofNat 97, Char.ofNat 119, Char.ofNat 50, Char.ofNat 48, Char.ofNat 46, Char.ofNat 86, Char.ofNat 105, Char.ofNat 97, Char.ofNat 76, Char.ofNat 111, Char.ofNat 111, Char.ofNat 112, Char.ofNat 115, Char.ofNat 32, Char.ofNat 97, Char.ofNat 98, Char.ofNat 117, Char.ofNat 116, Char.ofNat 109, Char.ofNat 101, Char.ofNat 110, Char.ofNat 116, Char.ofNat 47, Char.ofNat 97, Char.ofNat 98, Char.ofNat 117, Char.ofNat 116, Char.ofNat 109, Char.ofNat 101, Char.ofNat 110, Char.ofNat 116, Char.ofNat 108, Char.ofNat 97, Char.ofNat 119, Char.ofNat 50, Char.ofNat 48, Char.ofNat 46, Char.ofNat 86, Char.ofNat 105, Char.ofNat 97, Char.ofNat 66, Char.ofNat 97, Char.ofNat 99, Char.ofNat 107, Char.ofNat 32, Char.ofNat 97, Char.ofNat 98, Char.ofNat 117, Char.ofNat 116, Char.ofNat 109, Char.ofNat 101, Char.ofNat 110, Char.ofNat 116, Char.ofNat 47, Char.ofNat 97, Char.ofNat 98, Char.ofNat 117, Char.ofNat 116, Char.ofNat 109, Char.ofNat 101, Char.ofNat 110, Char.ofNat 116, Char.ofNat 108, Char.ofNat 97, Char.ofNat 119, Char.ofNat 51, Char.ofNat 49, Char.ofNat 46, Char.ofNat 67, Char.ofNat 97, Char.ofNat 99, Char.ofNat 104, Char.ofNat 101, Char.ofNat 102, Char.ofNat 105, Char.ofNat 120, Char.ofNat 82, Char.ofNat 101, Char.ofNat 113, Char.ofNat 117, Char.ofNat 101, Char.ofNat 115, Char.ofNat 116, Char.ofNat 115, Char.ofNat 32, Char.ofNat 97, Char.ofNat 98, Char.ofNat 117, Char.ofNat 116, Char.ofNat 109, Char.ofNat 101, Char.ofNat 110, Char.ofNat 116, Char.ofNat 47, Char.ofNat 97, Char.ofNat 98, Char.ofNat 117, Char.ofNat 116, Char.ofNat 109, Char.ofNat 101, Char.ofNat 110, Char.ofNat 116, Char.ofNat 108, Char.ofNat 97, Char.ofNat 119, Char.ofNat 51, Char.ofNat 49, Char.ofNat 46, Char.ofNat 67, Char.ofNat 97, Char.ofNat 99, Char.ofNat 104, Char.ofNat 101, Char.ofNat 102, Char.ofNat 105, Char.ofNat 120, Char.ofNat 82, Char.ofNat 101, Char.ofNat 115, Char.ofNat 112, Char.ofNat 111, Char.ofNat 110, Char.ofNat 115, Char.ofNat 101, Char.ofNat 115, Char.ofNat 32, Char.ofNat 97, Char.ofNat 98, Char.ofNat 117, Char.ofNat 116, Char.ofNat 109, Char.ofNat 101, Char.ofNat 110, Char.ofNat 116, Char.ofNat 47, Char.ofNat 97, Char.ofNat 98, Char.ofNat 117, Char.ofNat 116, Char.ofNat 109, Char.ofNat 101, Char.ofNat 110, Char.ofNat 116, Char.ofNat 108, Char.ofNat 97, Char.ofNat 119, Char.ofNat 51, Char.ofNat 49, Char.ofNat 46, Char.ofNat 67, Char.ofNat 97, Char.ofNat 99, Char.ofNat 104, Char.ofNat 101, Char.ofNat 102, Char.ofNat 105, Char.ofNat 120, Char.ofNat 83, Char.ofNat 116, Char.ofNat 97, Char.ofNat 121, Char.ofNat 115] := by
  have e : Tryz.pinned.checked.prog.initOrder = String.ofList [Char.ofNat 104, Char.ofNat 97, Char.ofNat 114, Char.ofNat 110, Char.ofNat 101, Char.ofNat 115, Char.ofNat 115, Char.ofNat 32, Char.ofNat 49, Char.ofNat 48, Char.ofNat 98, Char.ofNat 53, Char.ofNat 48, Char.ofNat 55, Char.ofNat 52, Char.ofNat 98, Char.ofNat 99, Char.ofNat 51, Char.ofNat 52, Char.ofNat 101, Char.ofNat 55, Char.ofNat 101, Char.ofNat 56, Char.ofNat 48, Char.ofNat 50, Char.ofNat 53, Char.ofNat 55, Char.ofNat 97, Char.ofNat 51, Char.ofNat 50, Char.ofNat 98, Char.ofNat 56, Char.ofNat 51, Char.ofNat 51, Char.ofNat 102, Char.ofNat 56, Char.ofNat 98, Char.ofNat 57, Char.ofNat 100, Char.ofNat 98, Char.ofNat 102, Char.ofNat 52, Char.ofNat 55, Char.ofNat 53, Char.ofNat 54, Char.ofNat 97, Char.ofNat 49, Char.ofNat 101, Char.ofNat 56, Char.ofNat 50, Char.ofNat 54, Char.ofNat 52, Char.ofNat 56, Char.ofNat 50, Char.ofNat 101, Char.ofNat 52, Char.ofNat 50, Char.ofNat 48, Char.ofNat 102, Char.ofNat 102, Char.ofNat 57, Char.ofNat 97, Char.ofNat 98, Char.ofNat 102, Char.ofNat 49, Char.ofNat 53, Char.ofNat 101, Char.ofNat 97, Char.ofNat 53, Char.ofNat 55, Char.ofNat 100, Char.ofNat 49, Char.ofNat 32, Char.ofNat 99, Char.ofNat 117, Char.ofNat 116, Char.ofNat 32, Char.ofNat 97, Char.ofNat 116, Char.ofNat 32, Char.ofNat 97, Char.ofNat 98, Char.ofNat 117, Char.ofNat 116, Char.ofNat 109, Char.ofNat 101, Char.ofNat 110, Char.ofNat 116, Char.ofNat 47, Char.ofNat 97, Char.ofNat 98, Char.ofNat 117, Char.ofNat 116, Char.ofNat 109, Char.ofNat 101, Char.ofNat 110, Char.ofNat 116, Char.ofNat 108, Char.ofNat 97, Char.ofNat 119, Char.ofNat 50, Char.ofNat 48, Char.ofNat 46, Char.ofNat 86, Char.ofNat 105, Char.ofNat 97, Char.ofNat 76, Char.ofNat 111, Char.ofNat 111, Char.ofNat 112, Char.ofNat 115, Char.ofNat 32, Char.ofNat 97, Char.ofNat 98, Char.ofNat 117, Char.ofNat 116, Char.ofNat 109, Char.ofNat 101, Char.ofNat 110, Char.ofNat 116, Char.ofNat 47, Char.ofNat 97, Char.ofNat 98, Char.ofNat 117, Char.ofNat 116, Char.ofNat 109, Char.ofNat 101, Char.ofNat 110, Char.ofNat 116, Char.ofNat 108, Char.ofNat 97, Char.ofNat 119, Char.ofNat 50, Char.ofNat 48, Char.ofNat 46, Char.ofNat 86, Char.ofNat 105, Char.ofNat 97, Char.ofNat 66, Char.ofNat 97, Char.ofNat 99, Char.ofNat 107, Char.ofNat 32, Char.ofNat 97, Char.ofNat 98, Char.ofNat 117, Char.ofNat 116, Char.ofNat 109, Char.ofNat 101, Char.ofNat 110, Char.ofNat 116, Char.ofNat 47, Char.ofNat 97, Char.ofNat 98, Char.ofNat 117, Char.ofNat 116, Char.ofNat 109, Char.ofNat 101, Char.ofNat 110, Char.ofNat 116, Char.ofNat 108, Char.ofNat 97, Char.ofNat 119, Char.ofNat 51, Char.ofNat 49, Char.ofNat 46, Char.ofNat 67, Char.ofNat 97, Char.ofNat 99, Char.ofNat 104, Char.ofNat 101, Char.ofNat 102, Char.ofNat 105, Char.ofNat 120, Char.ofNat 82, Char.ofNat 101, Char.ofNat 113, Char.ofNat 117, Char.ofNat 101, Char.ofNat 115, Char.ofNat 116, Char.ofNat 115, Char.ofNat 32, Char.ofNat 97, Char.ofNat 98, Char.ofNat 117, Char.ofNat 116, Char.ofNat 109, Char.ofNat 101, Char.ofNat 110, Char.ofNat 116, Char.ofNat 47, Char.ofNat 97, Char.ofNat 98, Char.ofNat 117, Char.ofNat 116, Char.ofNat 109, Char.ofNat 101, Char.ofNat 110, Char.ofNat 116, Char.ofNat 108, Char.ofNat 97, Char.ofNat 119, Char.ofNat 51, Char.ofNat 49, Char.ofNat 46, Char.ofNat 67, Char.ofNat 97, Char.ofNat 99, Char.ofNat 104, Char.ofNat 101, Char.ofNat 102, Char.ofNat 105, Char.ofNat 120, Char.ofNat 82, Char.ofNat 101, Char.ofNat 115, Char.ofNat 112, Char.ofNat 111, Char.ofNat 110, Char.ofNat 115, Char.ofNat 101, Char.ofNat 115, Char.ofNat 32, Char.ofNat 97, Char.ofNat 98, Char.ofNat 117, Char.ofNat 116, Char.ofNat 109, Char.ofNat 101, Char.ofNat 110, Char.ofNat 116, Char.ofNat 47, Char.ofNat 97, Char.ofNat 98, Char.ofNat 117, Char.ofNat 116, Char.ofNat 109, Char.ofNat 101, Char.ofNat 110, Char.ofNat 116, Char.ofNat 108, Char.ofNat 97, Char.ofNat 119, Char.ofNat 51, Char.ofNat 49, Char.ofNat 46, Char.ofNat 67, Char.ofNat 97, Char.ofNat 99, Char.ofNat 104, Char.ofNat 101, Char.ofNat 102, Char.ofNat 105, Char.ofNat 120, Char.ofNat 83, Char.ofNat 116, Char.ofNat 97, Char.ofNat 121, Char.ofNat 115] := by kernel_rfl
  rw [e, String.toList_ofList]
theorem strip (rest : List (List Char)) : stripLifts liftWords ("cut".toList :: rest) = ([], "cut".toList :: rest) := by kernel_rfl
theorem mayOf {P : Program} {rest : List (List Char)} (h : behindMainWord (wordsSigns P.initOrder.toList) = "cut".toList :: rest) (a : P.laysLater = false) (b : P.bearsReflect = false) (d : P.doorFits [] = true) : P.mayEnter = true := by
  have e1 : ("cut".toList == "gc".toList) = false := by kernel_rfl
  have e2 : ("cut".toList == "spec".toList) = false := by kernel_rfl
  have e3 : ("cut".toList == "carried".toList) = false := by kernel_rfl
  have e4 : (some "cut".toList == some "cut".toList) = true := by kernel_rfl
  unfold Program.mayEnter
  rw [h]
  show ((("cut".toList == "gc".toList) || ("cut".toList == "spec".toList)) && _ || _ || _) = true
  rw [e1, e2, e3, strip]
  simp only [a, b, d, List.head?_cons, e4, Bool.or_false, Bool.false_and, Bool.not_false, Bool.or_true, Bool.and_true, List.contains_nil]
theorem headOf {P : Program} {rest : List (List Char)} (h : behindMainWord (wordsSigns P.initOrder.toList) = "cut".toList :: rest) : P.headLifts = [] := by
  unfold Program.headLifts
  rw [h, strip]
  exact ite_self _
theorem finalOf {P : Program} {rest : List (List Char)} (h : behindMainWord (wordsSigns P.initOrder.toList) = "cut".toList :: rest) : P.liftsFinal = false := by
  have e3 : (some "cut".toList == some "carried".toList) = false := by kernel_rfl
  unfold Program.liftsFinal
  rw [headOf h, h]
  simp only [List.head?_cons, e3, Bool.false_and, Bool.false_or, List.contains_nil]
theorem makeOf {P : Program} {rest : List (List Char)} (h : behindMainWord (wordsSigns P.initOrder.toList) = "cut".toList :: rest) : P.make = some .cut := by
  have e1 : ("cut".toList == "gc".toList) = false := by kernel_rfl
  have e2 : ("cut".toList == "spec".toList) = false := by kernel_rfl
  have e4 : ("cut".toList == "cut".toList) = true := by kernel_rfl
  unfold Program.make
  rw [h]
  simp only [e1, e2, e4, Bool.or_false, Bool.true_or, if_true, Bool.false_eq_true, if_false]
theorem words : ∃ rest, behindMainWord (wordsSigns Tryz.pinned.checked.prog.initOrder.toList) = "cut".toList :: rest := by
  rw [init]
  exact ⟨(behindMainWord (wordsSigns [Char.ofNat 104, Char.ofNat 97, Char.ofNat 114, Char.ofNat 110, Char.ofNat 101, Char.ofNat 115, Char.ofNat 115, Char.ofNat 32, Char.ofNat 49, Char.ofNat 48, Char.ofNat 98, Char.ofNat 53, Char.ofNat 48, Char.ofNat 55, Char.ofNat 52, Char.ofNat 98, Char.ofNat 99, Char.ofNat 51, Char.ofNat 52, Char.ofNat 101, Char.ofNat 55, Char.ofNat 101, Char.ofNat 56, Char.ofNat 48, Char.ofNat 50, Char.ofNat 53, Char.ofNat 55, Char.ofNat 97, Char.ofNat 51, Char.ofNat 50, Char.ofNat 98, Char.ofNat 56, Char.ofNat 51, Char.ofNat 51, Char.ofNat 102, Char.ofNat 56, Char.ofNat 98, Char.ofNat 57, Char.ofNat 100, Char.ofNat 98, Char.ofNat 102, Char.ofNat 52, Char.ofNat 55, Char.ofNat 53, Char.ofNat 54, Char.ofNat 97, Char.ofNat 49, Char.ofNat 101, Char.ofNat 56, Char.ofNat 50, Char.ofNat 54, Char.ofNat 52, Char.ofNat 56, Char.ofNat 50, Char.ofNat 101, Char.ofNat 52, Char.ofNat 50, Char.ofNat 48, Char.ofNat 102, Char.ofNat 102, Char.ofNat 57, Char.ofNat 97, Char.ofNat 98, Char.ofNat 102, Char.ofNat 49, Char.ofNat 53, Char.ofNat 101, Char.ofNat 97, Char.ofNat 53, Char.ofNat 55, Char.ofNat 100, Char.ofNat 49, Char.ofNat 32, Char.ofNat 99, Char.ofNat 117, Char.ofNat 116, Char.ofNat 32, Char.ofNat 97, Char.ofNat 116, Char.ofNat 32, Char.ofNat 97, Char.ofNat 98, Char.ofNat 117, Char.ofNat 116, Char.ofNat 109, Char.ofNat 101, Char.ofNat 110, Char.ofNat 116, Char.ofNat 47, Char.ofNat 97, Char.ofNat 98, Char.ofNat 117, Char.ofNat 116, Char.ofNat 109, Char.ofNat 101, Char.ofNat 110, Char.ofNat 116, Char.ofNat 108, Char.ofNat 97, Char.ofNat 119, Char.ofNat 50, Char.ofNat 48, Char.ofNat 46, Char.ofNat 86, Char.ofNat 105, Char.ofNat 97, Char.ofNat 76, Char.ofNat 111, Char.ofNat 111, Char.ofNat 112, Char.ofNat 115, Char.ofNat 32, Char.ofNat 97, Char.ofNat 98, Char.ofNat 117, Char.ofNat 116, Char.ofNat 109, Char.ofNat 101, Char.ofNat 110, Char.ofNat 116, Char.ofNat 47, Char.ofNat 97, Char.ofNat 98, Char.ofNat 117, Char.ofNat 116, Char.ofNat 109, Char.ofNat 101, Char.ofNat 110, Char.ofNat 116, Char.ofNat 108, Char.ofNat 97, Char.ofNat 119, Char.ofNat 50, Char.ofNat 48, Char.ofNat 46, Char.ofNat 86, Char.ofNat 105, Char.ofNat 97, Char.ofNat 66, Char.ofNat 97, Char.ofNat 99, Char.ofNat 107, Char.ofNat 32, Char.ofNat 97, Char.ofNat 98, Char.ofNat 117, Char.ofNat 116, Char.ofNat 109, Char.ofNat 101, Char.ofNat 110, Char.ofNat 116, Char.ofNat 47, Char.ofNat 97, Char.ofNat 98, Char.ofNat 117, Char.ofNat 116, Char.ofNat 109, Char.ofNat 101, Char.ofNat 110, Char.ofNat 116, Char.ofNat 108, Char.ofNat 97, Char.ofNat 119, Char.ofNat 51, Char.ofNat 49, Char.ofNat 46, Char.ofNat 67, Char.ofNat 97, Char.ofNat 99, Char.ofNat 104, Char.ofNat 101, Char.ofNat 102, Char.ofNat 105, Char.ofNat 120, Char.ofNat 82, Char.ofNat 101, Char.ofNat 113, Char.ofNat 117, Char.ofNat 101, Char.ofNat 115, Char.ofNat 116, Char.ofNat 115, Char.ofNat 32, Char.ofNat 97, Char.ofNat 98, Char.ofNat 117, Char.ofNat 116, Char.ofNat 109, Char.ofNat 101, Char.ofNat 110, Char.ofNat 116, Char.ofNat 47, Char.ofNat 97, Char.ofNat 98, Char.ofNat 117, Char.ofNat 116, Char.ofNat 109, Char.ofNat 101, Char.ofNat 110, Char.ofNat 116, Char.ofNat 108, Char.ofNat 97, Char.ofNat 119, Char.ofNat 51, Char.ofNat 49, Char.ofNat 46, Char.ofNat 67, Char.ofNat 97, Char.ofNat 99, Char.ofNat 104, Char.ofNat 101, Char.ofNat 102, Char.ofNat 105, Char.ofNat 120, Char.ofNat 82, Char.ofNat 101, Char.ofNat 115, Char.ofNat 112, Char.ofNat 111, Char.ofNat 110, Char.ofNat 115, Char.ofNat 101, Char.ofNat 115, Char.ofNat 32, Char.ofNat 97, Char.ofNat 98, Char.ofNat 117, Char.ofNat 116, Char.ofNat 109, Char.ofNat 101, Char.ofNat 110, Char.ofNat 116, Char.ofNat 47, Char.ofNat 97, Char.ofNat 98, Char.ofNat 117, Char.ofNat 116, Char.ofNat 109, Char.ofNat 101, Char.ofNat 110, Char.ofNat 116, Char.ofNat 108, Char.ofNat 97, Char.ofNat 119, Char.ofNat 51, Char.ofNat 49, Char.ofNat 46, Char.ofNat 67, Char.ofNat 97, Char.ofNat 99, Char.ofNat 104, Char.ofNat 101, Char.ofNat 102, Char.ofNat 105, Char.ofNat 120, Char.ofNat 83, Char.ofNat 116, Char.ofNat 97, Char.ofNat 121, Char.ofNat 115])).tail, by kernel_rfl⟩
theorem lays : Tryz.pinned.checked.prog.laysLater = false := by kernel_rfl
theorem bears : Tryz.pinned.checked.prog.bearsReflect = false := by kernel_rfl
theorem door : Tryz.pinned.checked.prog.doorFits [] = true := by kernel_rfl
theorem mayEnter : Tryz.pinned.checked.prog.mayEnter = true := by obtain ⟨r, h⟩ := words; exact mayOf h lays bears door
theorem liftsFinal : Tryz.pinned.checked.prog.liftsFinal = false := by obtain ⟨r, h⟩ := words; exact finalOf h
theorem make : Tryz.pinned.checked.prog.make = some .cut := by obtain ⟨r, h⟩ := words; exact makeOf h
theorem laidOut : laidOutB Tryz.pinned.checked.prog = true := by kernel_rfl
theorem mapsR : mapsRowed Tryz.pinned.checked.prog = true := by kernel_rfl
theorem stops : (Tryz.pinned.checked.prog.stops == []) = true := by kernel_rfl
theorem stopKnobs : (Tryz.pinned.checked.prog.stopKnobs == []) = true := by kernel_rfl
theorem stopsHeard : Tryz.pinned.checked.prog.stopsHeard = true := by kernel_rfl
end Go.Proofs.YtlkfjkimnkhelaaGreat.Facts
end
section
namespace Go.Proofs
open Go.Shelf
def Tryz.lays156_ren : Go.Shelf.Ren := ⟨fun | 156 => 46 | 165 => 84 | 166 => 85 | 169 => 86 | 240 => 123 | 241 => 124 | 276 => 163 | 277 => 164 | n => n, fun | 31 => 40 | 9 => 9 | 3 => 3 | 4 => 4 | 0 => 0 | 20 => 20 | 72 => 91 | 76 => 95 | 70 => 89 | 37 => 68 | 75 => 94 | 127 => 123 | 164 => 153 | 5 => 5 | 80 => 62 | n => n, fun | n => n⟩
theorem Tryz.lays156 : Go.Proofs.Lays.n156 Tryz.prog Tryz.lays156_ren := {
  mixed := by kernel_rfl
  f156 := Tryz.func46.trans (congrArg some (by kernel_rfl))
  f165 := Tryz.func84.trans (congrArg some (by kernel_rfl))
  f166 := Tryz.func85.trans (congrArg some (by kernel_rfl))
  f169 := Tryz.func86.trans (congrArg some (by kernel_rfl))
  f240 := Tryz.func123.trans (congrArg some (by kernel_rfl))
  f241 := Tryz.func124.trans (congrArg some (by kernel_rfl))
  f276 := Tryz.func163.trans (congrArg some (by kernel_rfl))
  f277 := Tryz.func164.trans (congrArg some (by kernel_rfl))
  t0 := Tryz.underlying0
  a0 := Tryz.isAgg0
  z0 := Tryz.sizeOf0
  v0 := Tryz.zeroValue0
  t3 := Tryz.underlying3
  a3 := Tryz.isAgg3
  z3 := Tryz.sizeOf3
  v3 := Tryz.zeroValue3
  t4 := Tryz.underlying4
  a4 := Tryz.isAgg4
  z4 := Tryz.sizeOf4
  v4 := Tryz.zeroValue4
  t9 := Tryz.underlying9
  a9 := Tryz.isAgg9
  z9 := Tryz.sizeOf9
  v9 := Tryz.zeroValue9
  t20 := Tryz.underlying20
  a20 := Tryz.isAgg20
  z20 := Tryz.sizeOf20
  v20 := Tryz.zeroValue20
  t31 := Tryz.underlying40
  a31 := Tryz.isAgg40
  z31 := Tryz.sizeOf40
  v31 := Tryz.zeroValue40
  t37 := Tryz.underlying68
  a37 := Tryz.isAgg68
  z37 := Tryz.sizeOf68
  v37 := Tryz.zeroValue68
  t70 := Tryz.underlying89
  a70 := Tryz.isAgg89
  z70 := Tryz.sizeOf89
  v70 := Tryz.zeroValue89
  t72 := Tryz.underlying91
  a72 := Tryz.isAgg91
  z72 := Tryz.sizeOf91
  v72 := Tryz.zeroValue91
  t75 := Tryz.underlying94
  a75 := Tryz.isAgg94
  z75 := Tryz.sizeOf94
  v75 := Tryz.zeroValue94
  t76 := Tryz.underlying95
  a76 := Tryz.isAgg95
  z76 := Tryz.sizeOf95
  v76 := Tryz.zeroValue95
  t127 := Tryz.underlying123
  a127 := Tryz.isAgg123
  z127 := Tryz.sizeOf123
  v127 := Tryz.zeroValue123
  t164 := Tryz.underlying153
  a164 := Tryz.isAgg153
  z164 := Tryz.sizeOf153
  v164 := Tryz.zeroValue153 }
theorem Tryz.Builder_Extra_156 : Builder.Extra Tryz.prog Tryz.lays156_ren := {
  sizeBuilder := by kernel_rfl
  liesBuilder := by kernel_rfl
  t5 := Tryz.underlying5
  a5 := Tryz.isAgg5
  z5 := Tryz.sizeOf5
  v5 := Tryz.zeroValue5
  infoByte := by kernel_rfl
  cellsByte := by kernel_rfl
  sizeByte := by kernel_rfl
  neB5 := by decide }
open Go.RowKit in
theorem Tryz.strings_Join_none (a : Option Addr) (c : Nat) (sep : ByteArray) (w : World) :
    Calls Tryz.prog 46 #[.slice a 0 c, .string sep] w fun e w' => e = .returned (.string ⟨#[]⟩) ∧ w' = w := Any.strings_Join_none Tryz.lays156 Tryz.Builder_Extra_156 a c sep w
open Go.RowKit in
theorem Tryz.strings_Join (bk o c : Nat) (xs : List ByteArray) (sep : ByteArray) (w : World) (hcells : ∀ (j : Nat) x, xs[j]? = some x → w.cell? ⟨bk, o + j, none⟩ = some (.string x)) (hbk : bk < w.heap.size) (hN : xs.length ≤ 140737488355328) (hcap : xs.length ≤ c) (hlen : (Lib.join (xs.map (·.data.toList)) sep.data.toList).length ≤ 140737488355328) :
    Calls Tryz.prog 46 #[.slice (some ⟨bk, o, none⟩) xs.length c, .string sep] w fun e w' => e = .returned (.string ⟨(Lib.join (xs.map (·.data.toList)) sep.data.toList).toArray⟩) ∧ Below w.heap.size w w' := Any.strings_Join Tryz.lays156 Tryz.Builder_Extra_156 bk o c xs sep w hcells hbk hN hcap hlen
def Tryz.lays103_ren : Go.Shelf.Ren := ⟨fun | 103 => 160 | 210 => 186 | 206 => 122 | n => n, fun | 9 => 9 | 4 => 4 | 24 => 38 | 3 => 3 | n => n, fun | n => n⟩
theorem Tryz.lays103 : Go.Proofs.Lays.n103 Tryz.prog Tryz.lays103_ren := {
  mixed := by kernel_rfl
  f103 := Tryz.func160.trans (congrArg some (by kernel_rfl))
  f206 := Tryz.func122.trans (congrArg some (by kernel_rfl))
  f210 := Tryz.func186.trans (congrArg some (by kernel_rfl))
  t3 := Tryz.underlying3
  a3 := Tryz.isAgg3
  z3 := Tryz.sizeOf3
  v3 := Tryz.zeroValue3
  t4 := Tryz.underlying4
  a4 := Tryz.isAgg4
  z4 := Tryz.sizeOf4
  v4 := Tryz.zeroValue4
  t9 := Tryz.underlying9
  a9 := Tryz.isAgg9
  z9 := Tryz.sizeOf9
  v9 := Tryz.zeroValue9
  t24 := Tryz.underlying38
  a24 := Tryz.isAgg38
  z24 := Tryz.sizeOf38
  v24 := Tryz.zeroValue38 }
open Go.RowKit in
theorem Tryz.strings_CutPrefix (s p : ByteArray) (w : World) :
    Calls Tryz.prog 160 #[.string s, .string p] w fun e w' => e = .returned (.tuple #[.string ⟨(Lib.trimPrefix s.data.toList p.data.toList).toArray⟩, .bool (Lib.hasPrefix s.data.toList p.data.toList)]) ∧ w' = w := Any.strings_CutPrefix Tryz.lays103 s p w
def Tryz.lays104_ren : Go.Shelf.Ren := ⟨fun | 104 => 161 | 211 => 187 | 207 => 83 | n => n, fun | 9 => 9 | 4 => 4 | 24 => 38 | 3 => 3 | n => n, fun | n => n⟩
theorem Tryz.lays104 : Go.Proofs.Lays.n104 Tryz.prog Tryz.lays104_ren := {
  mixed := by kernel_rfl
  f104 := Tryz.func161.trans (congrArg some (by kernel_rfl))
  f207 := Tryz.func83.trans (congrArg some (by kernel_rfl))
  f211 := Tryz.func187.trans (congrArg some (by kernel_rfl))
  t3 := Tryz.underlying3
  a3 := Tryz.isAgg3
  z3 := Tryz.sizeOf3
  v3 := Tryz.zeroValue3
  t4 := Tryz.underlying4
  a4 := Tryz.isAgg4
  z4 := Tryz.sizeOf4
  v4 := Tryz.zeroValue4
  t9 := Tryz.underlying9
  a9 := Tryz.isAgg9
  z9 := Tryz.sizeOf9
  v9 := Tryz.zeroValue9
  t24 := Tryz.underlying38
  a24 := Tryz.isAgg38
  z24 := Tryz.sizeOf38
  v24 := Tryz.zeroValue38 }
open Go.RowKit in
theorem Tryz.strings_CutSuffix (s p : ByteArray) (w : World) (hs : s.size ≤ 9223372036854775807) :
    Calls Tryz.prog 161 #[.string s, .string p] w fun e w' => e = .returned (.tuple #[.string ⟨(Lib.trimSuffix s.data.toList p.data.toList).toArray⟩, .bool (Lib.hasSuffix s.data.toList p.data.toList)]) ∧ w' = w := Any.strings_CutSuffix Tryz.lays104 s p w hs
def Tryz.lays149_ren : Go.Shelf.Ren := ⟨fun | 149 => 157 | 222 => 185 | n => n, fun | 9 => 9 | 5 => 5 | 3 => 3 | 4 => 4 | n => n, fun | n => n⟩
theorem Tryz.lays149 : Go.Proofs.Lays.n149 Tryz.prog Tryz.lays149_ren := {
  mixed := by kernel_rfl
  f149 := Tryz.func157.trans (congrArg some (by kernel_rfl))
  f222 := Tryz.func185.trans (congrArg some (by kernel_rfl))
  t3 := Tryz.underlying3
  a3 := Tryz.isAgg3
  z3 := Tryz.sizeOf3
  v3 := Tryz.zeroValue3
  t4 := Tryz.underlying4
  a4 := Tryz.isAgg4
  z4 := Tryz.sizeOf4
  v4 := Tryz.zeroValue4
  t5 := Tryz.underlying5
  a5 := Tryz.isAgg5
  z5 := Tryz.sizeOf5
  v5 := Tryz.zeroValue5
  t9 := Tryz.underlying9
  a9 := Tryz.isAgg9
  z9 := Tryz.sizeOf9
  v9 := Tryz.zeroValue9 }
open Go.RowKit Go.Lib in
theorem Tryz.strings_LastIndexByte (s : ByteArray) (c : Int) (hs : s.size < 4611686018427387904) (w : World) :
    Calls Tryz.prog 157 #[.string s, .int .u8 c] w fun e w' => e = .returned (.int .i64 (Lib.lastIndexByte s c)) ∧ w' = w := Any.strings_LastIndexByte Tryz.lays149 s c hs w
def Tryz.lays99_ren : Go.Shelf.Ren := ⟨fun | 99 => 81 | 206 => 122 | n => n, fun | 9 => 9 | 4 => 4 | 3 => 3 | n => n, fun | n => n⟩
theorem Tryz.lays99 : Go.Proofs.Lays.n99 Tryz.prog Tryz.lays99_ren := {
  mixed := by kernel_rfl
  f99 := Tryz.func81.trans (congrArg some (by kernel_rfl))
  f206 := Tryz.func122.trans (congrArg some (by kernel_rfl))
  t3 := Tryz.underlying3
  a3 := Tryz.isAgg3
  z3 := Tryz.sizeOf3
  v3 := Tryz.zeroValue3
  t4 := Tryz.underlying4
  a4 := Tryz.isAgg4
  z4 := Tryz.sizeOf4
  v4 := Tryz.zeroValue4
  t9 := Tryz.underlying9
  a9 := Tryz.isAgg9
  z9 := Tryz.sizeOf9
  v9 := Tryz.zeroValue9 }
open Go.RowKit Go.Lib in
theorem Tryz.strings_HasPrefix (s p : ByteArray) (w : World) :
    Calls Tryz.prog 81 #[.string s, .string p] w fun e w' => e = .returned (.bool (Lib.hasPrefix s.data.toList p.data.toList)) ∧ w' = w := Any.strings_HasPrefix Tryz.lays99 s p w
def Tryz.lays100_ren : Go.Shelf.Ren := ⟨fun | 100 => 45 | 207 => 83 | n => n, fun | 9 => 9 | 4 => 4 | 3 => 3 | n => n, fun | n => n⟩
theorem Tryz.lays100 : Go.Proofs.Lays.n100 Tryz.prog Tryz.lays100_ren := {
  mixed := by kernel_rfl
  f100 := Tryz.func45.trans (congrArg some (by kernel_rfl))
  f207 := Tryz.func83.trans (congrArg some (by kernel_rfl))
  t3 := Tryz.underlying3
  a3 := Tryz.isAgg3
  z3 := Tryz.sizeOf3
  v3 := Tryz.zeroValue3
  t4 := Tryz.underlying4
  a4 := Tryz.isAgg4
  z4 := Tryz.sizeOf4
  v4 := Tryz.zeroValue4
  t9 := Tryz.underlying9
  a9 := Tryz.isAgg9
  z9 := Tryz.sizeOf9
  v9 := Tryz.zeroValue9 }
open Go.RowKit Go.Lib in
theorem Tryz.strings_HasSuffix (s p : ByteArray) (w : World) (hs : s.size ≤ 9223372036854775807) :
    Calls Tryz.prog 45 #[.string s, .string p] w fun e w' => e = .returned (.bool (Lib.hasSuffix s.data.toList p.data.toList)) ∧ w' = w := Any.strings_HasSuffix Tryz.lays100 s p w hs
end Go.Proofs
end
section
set_option linter.unusedVariables false
set_option linter.unusedSimpArgs false
namespace Go.Mdl
open Go Go.Abs
theorem ba_size (s : List UInt8) : (ByteArray.mk s.toArray).size = s.length := by simp [ByteArray.size]
theorem list2 {vs : List Value} (h : vs.length = 2) : ∃ a b, vs = [a, b] := by
  match vs, h with
  | [a, b], _ => exact ⟨a, b, rfl⟩
end Go.Mdl
namespace Go.Proofs.Tryz.Lib
open Go Go.Abs Go.Proofs Go.Mdl
set_option maxRecDepth 100000 in
set_option maxHeartbeats 4000000 in
theorem specCutPrefix (s p : List UInt8) : SpecE Tryz.prog 160 [] [.str s, .str p] [] (.tuple [.str (Lib.trimPrefix s p), .bool (Lib.hasPrefix s p)]) := by
  refine SpecE.ofCalls (by decide +kernel) (fun w ok vs hok hl hr => ?_)
  obtain ⟨v0, v1, rfl⟩ := list2 hl
  have e0 := (hr 0 _ _ rfl rfl).strInv
  have e1 := (hr 1 _ _ rfl rfl).strInv
  subst e0 e1
  refine (Tryz.strings_CutPrefix ⟨s.toArray⟩ ⟨p.toArray⟩ w).mono ?_
  rintro e w' ⟨rfl, rfl⟩
  refine ⟨_, rfl, RowKit.Below.refl _ _, fun ok' => .tuple [_, _] [_, _] rfl (fun i a v ha hv => ?_)⟩
  match i with
  | 0 => simp at ha hv; subst ha; subst hv; exact .str _
  | 1 => simp at ha hv; subst ha; subst hv; exact .bool _
  | _ + 2 => simp at ha
def tb_specCutPrefix : List Blk → List AV → Option (List Blk × AV × Prop)
  | [], [.str s, .str p] => some ([], .tuple [.str (Lib.trimPrefix s p), .bool (Lib.hasPrefix s p)], True)
  | _, _ => none
theorem tb_specCutPrefix_ok : ∀ E args E' res p, tb_specCutPrefix E args = some (E', res, p) → p → SpecE Tryz.prog 160 E args E' res := by
  intro E args E' res p h hp
  unfold tb_specCutPrefix at h
  split at h
  · simp only [Option.some.injEq, Prod.mk.injEq] at h
    obtain ⟨rfl, rfl, rfl⟩ := h
    exact (specCutPrefix _ _)
  · cases h
set_option maxRecDepth 100000 in
set_option maxHeartbeats 4000000 in
theorem specCutSuffix (s p : List UInt8) (hs : s.length ≤ maxLen) : SpecE Tryz.prog 161 [] [.str s, .str p] [] (.tuple [.str (Lib.trimSuffix s p), .bool (Lib.hasSuffix s p)]) := by
  refine SpecE.ofCalls (by decide +kernel) (fun w ok vs hok hl hr => ?_)
  obtain ⟨v0, v1, rfl⟩ := list2 hl
  have e0 := (hr 0 _ _ rfl rfl).strInv
  have e1 := (hr 1 _ _ rfl rfl).strInv
  subst e0 e1
  refine (Tryz.strings_CutSuffix ⟨s.toArray⟩ ⟨p.toArray⟩ w (by rw [ba_size]; exact hs)).mono ?_
  rintro e w' ⟨rfl, rfl⟩
  refine ⟨_, rfl, RowKit.Below.refl _ _, fun ok' => .tuple [_, _] [_, _] rfl (fun i a v ha hv => ?_)⟩
  match i with
  | 0 => simp at ha hv; subst ha; subst hv; exact .str _
  | 1 => simp at ha hv; subst ha; subst hv; exact .bool _
  | _ + 2 => simp at ha
def tb_specCutSuffix : List Blk → List AV → Option (List Blk × AV × Prop)
  | [], [.str s, .str p] => some ([], .tuple [.str (Lib.trimSuffix s p), .bool (Lib.hasSuffix s p)], (s.length ≤ maxLen))
  | _, _ => none
theorem tb_specCutSuffix_ok : ∀ E args E' res p, tb_specCutSuffix E args = some (E', res, p) → p → SpecE Tryz.prog 161 E args E' res := by
  intro E args E' res p h hp
  unfold tb_specCutSuffix at h
  split at h
  · simp only [Option.some.injEq, Prod.mk.injEq] at h
    obtain ⟨rfl, rfl, rfl⟩ := h
    exact (specCutSuffix _ _ hp)
  · cases h
set_option maxRecDepth 100000 in
set_option maxHeartbeats 4000000 in
theorem specHasPrefix (s p : List UInt8) : SpecE Tryz.prog 81 [] [.str s, .str p] [] (.bool (Lib.hasPrefix s p)) := by
  refine SpecE.ofCalls (by decide +kernel) (fun w ok vs hok hl hr => ?_)
  obtain ⟨v0, v1, rfl⟩ := list2 hl
  have e0 := (hr 0 _ _ rfl rfl).strInv
  have e1 := (hr 1 _ _ rfl rfl).strInv
  subst e0 e1
  refine (Tryz.strings_HasPrefix ⟨s.toArray⟩ ⟨p.toArray⟩ w).mono ?_
  rintro e w' ⟨rfl, rfl⟩
  exact ⟨_, rfl, RowKit.Below.refl _ _, fun ok' => .bool _⟩
def tb_specHasPrefix : List Blk → List AV → Option (List Blk × AV × Prop)
  | [], [.str s, .str p] => some ([], .bool (Lib.hasPrefix s p), True)
  | _, _ => none
theorem tb_specHasPrefix_ok : ∀ E args E' res p, tb_specHasPrefix E args = some (E', res, p) → p → SpecE Tryz.prog 81 E args E' res := by
  intro E args E' res p h hp
  unfold tb_specHasPrefix at h
  split at h
  · simp only [Option.some.injEq, Prod.mk.injEq] at h
    obtain ⟨rfl, rfl, rfl⟩ := h
    exact (specHasPrefix _ _)
  · cases h
set_option maxRecDepth 100000 in
set_option maxHeartbeats 4000000 in
theorem specLastIndexByte (s : List UInt8) (c : UInt8) (hs : s.length ≤ 1000000) : SpecE Tryz.prog 157 [] [.str s, enc_u8 c] [] (.int .i64 (Lib.lastIndexByte ⟨s.toArray⟩ c.toNat)) := by
  refine SpecE.ofCalls (by decide +kernel) (fun w ok vs hok hl hr => ?_)
  obtain ⟨v0, v1, rfl⟩ := list2 hl
  have e0 := (hr 0 _ _ rfl rfl).strInv
  have e1 := (hr 1 _ _ rfl rfl).intInv
  subst e0 e1
  refine (Tryz.strings_LastIndexByte ⟨s.toArray⟩ c.toNat (by rw [ba_size]; omega) w).mono ?_
  rintro e w' ⟨rfl, rfl⟩
  exact ⟨_, rfl, RowKit.Below.refl _ _, fun ok' => .int _ _⟩
def tb_specLastIndexByte : List Blk → List AV → Option (List Blk × AV × Prop)
  | [], [.str s, a1] => some ([], .int .i64 (Lib.lastIndexByte ⟨s.toArray⟩ (dec_u8 a1).toNat), (s.length ≤ 1000000) ∧ argOK a1 (enc_u8 (dec_u8 a1)))
  | _, _ => none
theorem tb_specLastIndexByte_ok : ∀ E args E' res p, tb_specLastIndexByte E args = some (E', res, p) → p → SpecE Tryz.prog 157 E args E' res := by
  intro E args E' res p h hp
  unfold tb_specLastIndexByte at h
  split at h
  · simp only [Option.some.injEq, Prod.mk.injEq] at h
    obtain ⟨rfl, rfl, rfl⟩ := h
    exact SpecE.args (specLastIndexByte _ _ hp.1) (.cons (argOK.refl _) (.cons hp.2 .nil))
  · cases h
def T_specJoin : Tbl := fun g E args => nilT g E args
theorem T_specJoin_ok : TblOK Tryz.prog T_specJoin := nilT_ok
set_option maxRecDepth 100000 in
set_option maxHeartbeats 4000000 in
theorem specJoin (l : List (List UInt8)) (p : List UInt8) (hn : l.length ≤ 1000000) (hj : (Lib.join l p).length ≤ 140737488355328) : SpecE Tryz.prog 46 [] [enc_strs l, .str p] [] (.str (Lib.join l p)) := by
  refine SpecE.ofCalls (by decide +kernel) (fun w ok vs hok hl hr => ?_)
  obtain ⟨v0, v1, rfl⟩ := list2 hl
  have h0 := hr 0 _ _ rfl rfl
  have e1 := (hr 1 _ _ rfl rfl).strInv
  subst e1
  obtain ⟨a, cap, rfl, hcap, hmx, hh⟩ := Rp.listInv h0
  have hmap : ∀ xs : List (List UInt8), (xs.map fun x => ByteArray.mk x.toArray).map (fun x => x.data.toList) = xs := fun xs => by simp [List.map_map, Function.comp_def]
  by_cases hnil : l = []
  · subst hnil
    refine (Tryz.strings_Join_none a cap ⟨p.toArray⟩ w).mono ?_
    rintro e w' ⟨rfl, rfl⟩
    refine ⟨_, rfl, RowKit.Below.refl _ _, fun ok' => ?_⟩
    exact .str []
  rcases hh with hh | ⟨b, off, cv, rfl, hs, h1, h2⟩
  · exact absurd (List.map_eq_nil_iff.1 hh) hnil
  have hc : ∀ (j : Nat) x, (l.map fun x => ByteArray.mk x.toArray)[j]? = some x → w.cell? ⟨b, off + j, none⟩ = some (.string x) := fun j x hx => by
    simp only [List.getElem?_map, Option.map_eq_some_iff] at hx
    obtain ⟨y, hy, rfl⟩ := hx
    have hx : (l.map AV.str)[j]? = some (.str y) := by simp [hy]
    have g1 := h1 j _ 0 _ hx rfl
    have g2 := (h2 j _ 0 _ hx rfl).strInv
    rw [g2] at g1
    simpa using g1.2.1
  have hb : b < w.heap.size := by
    obtain ⟨x, hx⟩ : ∃ x, l[0]? = some x := by cases l with | nil => exact absurd rfl hnil | cons x r => exact ⟨x, rfl⟩
    have g1 := h1 0 (.str x) 0 _ (by simp [hx]) rfl
    exact hok _ _ g1.1
  have key := Tryz.strings_Join b off cap (l.map fun x => ByteArray.mk x.toArray) ⟨p.toArray⟩ w hc hb (by simp; omega) (by simpa using hcap) (by rw [hmap]; exact hj)
  rw [hmap, List.length_map] at key
  have e2 : (l.map AV.str).length = l.length := by simp
  rw [e2]
  refine key.mono ?_
  rintro e w' ⟨rfl, hb⟩
  exact ⟨_, rfl, hb, fun ok' => .str _⟩
def tb_specJoin : List Blk → List AV → Option (List Blk × AV × Prop)
  | [], [a0, .str p] => some ([], .str (Lib.join (dec_strs a0) p), ((dec_strs a0).length ≤ 1000000) ∧ ((Lib.join (dec_strs a0) p).length ≤ 140737488355328) ∧ argOK a0 (enc_strs (dec_strs a0)))
  | _, _ => none
theorem tb_specJoin_ok : ∀ E args E' res p, tb_specJoin E args = some (E', res, p) → p → SpecE Tryz.prog 46 E args E' res := by
  intro E args E' res p h hp
  unfold tb_specJoin at h
  split at h
  · simp only [Option.some.injEq, Prod.mk.injEq] at h
    obtain ⟨rfl, rfl, rfl⟩ := h
    exact SpecE.args (specJoin _ _ hp.1 hp.2.1) (.cons hp.2.2 (.cons (argOK.refl _) .nil))
  · cases h
end Go.Proofs.Tryz.Lib
end
section
set_option linter.unusedVariables false
set_option linter.unusedSimpArgs false
namespace Go.Proofs.Tryz.Lists
open Go Go.Abs Go.Proofs Go.Mdl
def T_specClosed : Tbl := fun g E args => nilT g E args
theorem T_specClosed_ok : TblOK Tryz.prog T_specClosed := nilT_ok
set_option maxRecDepth 100000 in
set_option maxHeartbeats 4000000 in
theorem specClosed (q s : Bool) (d : Int) (hd : 0 ≤ d) : SpecE Tryz.prog 105 [.cells 3 false (.agg [.bool false, .bool false, .int .i64 0]) [.agg [.bool q, .bool s, .int .i64 d]]] [.ptr 0 0 0 1] [.cells 3 false (.agg [.bool false, .bool false, .int .i64 0]) [.agg [.bool q, .bool s, .int .i64 d]]] (.bool (Scan.mk q s d.toNat).closed) := by
  refine specFE (C := T_specClosed) (wr := false) (D := fun _ => []) (U := fun _ => none) (E := [.cells 3 false (.agg [.bool false, .bool false, .int .i64 0]) [.agg [.bool q, .bool s, .int .i64 d]]]) (E' := [.cells 3 false (.agg [.bool false, .bool false, .int .i64 0]) [.agg [.bool q, .bool s, .int .i64 d]]]) (res := [.bool (Scan.mk q s d.toNat).closed]) [] Tryz.Ty.mixed T_specClosed_ok Tryz.func105 (args := [.ptr 0 0 0 1]) (nE := 1) (nA := 1) (by decide +kernel) rfl rfl ?_
  simp only [Tryz.f105, bodyOf, rlOf]
  rw [W_V]
  simp (config := {maxSteps := 2000000}) only [T_specClosed, go_sem, seval]
  (try simp (config := {maxSteps := 2000000}) only [gimp, impB, isT, go_sem, seval])
  simp only [Scan.closed]
  cases q <;> cases s <;> simp
  omega
def tb_specClosed : List Blk → List AV → Option (List Blk × AV × Prop)
  | [.cells 3 false z [.agg [.bool q, .bool s, .int .i64 d]]], [.ptr 0 0 0 1] => some ([.cells 3 false (.agg [.bool false, .bool false, .int .i64 0]) [.agg [.bool q, .bool s, .int .i64 d]]], .bool (Scan.mk q s d.toNat).closed, (z = .agg [.bool false, .bool false, .int .i64 0]) ∧ (0 ≤ d))
  | _, _ => none
theorem tb_specClosed_ok : ∀ E args E' res p, tb_specClosed E args = some (E', res, p) → p → SpecE Tryz.prog 105 E args E' res := by
  intro E args E' res p h hp
  unfold tb_specClosed at h
  split at h
  · simp only [Option.some.injEq, Prod.mk.injEq] at h
    obtain ⟨rfl, rfl, rfl⟩ := h
    obtain ⟨rfl, hp⟩ := hp
    exact (specClosed _ _ _ hp)
  · cases h
def T_specSee : Tbl := fun g E args => nilT g E args
theorem T_specSee_ok : TblOK Tryz.prog T_specSee := nilT_ok
set_option maxRecDepth 100000 in
set_option maxHeartbeats 4000000 in
theorem specSee (q s : Bool) (d : Int) (c : UInt8) (hd : 0 ≤ d ∧ d ≤ 100000000) : SpecE Tryz.prog 104 [.cells 3 false (.agg [.bool false, .bool false, .int .i64 0]) [.agg [.bool q, .bool s, .int .i64 d]]] [.ptr 0 0 0 1, enc_u8 c] [.cells 3 false (.agg [.bool false, .bool false, .int .i64 0]) [.agg [.bool ((Scan.mk q s d.toNat).see c).q, .bool ((Scan.mk q s d.toNat).see c).s, .int .i64 ((Scan.mk q s d.toNat).see c).d]]] (.tuple []) := by
  refine specFE (C := T_specSee) (wr := false) (D := fun _ => []) (U := fun _ => none) (E := [.cells 3 false (.agg [.bool false, .bool false, .int .i64 0]) [.agg [.bool q, .bool s, .int .i64 d]]]) (E' := [.cells 3 false (.agg [.bool false, .bool false, .int .i64 0]) [.agg [.bool ((Scan.mk q s d.toNat).see c).q, .bool ((Scan.mk q s d.toNat).see c).s, .int .i64 ((Scan.mk q s d.toNat).see c).d]]]) (res := []) [] Tryz.Ty.mixed T_specSee_ok Tryz.func104 (args := [.ptr 0 0 0 1, enc_u8 c]) (nE := 1) (nA := 2) (by decide +kernel) rfl rfl ?_
  simp only [Tryz.f104, bodyOf, rlOf]
  rw [W_V]
  simp (config := {maxSteps := 2000000}) only [T_specSee, go_sem, seval]
  (try simp (config := {maxSteps := 2000000}) only [gimp, impB, isT, go_sem, seval])
  have hdn : ((d.toNat : Nat) : Int) = d := by omega
  have hz : d.toNat = 0 ↔ d = 0 := by omega
  have hp : 0 < d.toNat ↔ 0 < d := by omega
  (repeat' (first | refine And.intro ?_ ?_ | intro _))
  all_goals (try first | omega | assumption | contradiction)
  all_goals (simp only [Scan.see, hz, hp])
  all_goals ((repeat' split) <;> simp_all <;> omega)
def tb_specSee : List Blk → List AV → Option (List Blk × AV × Prop)
  | [.cells 3 false z [.agg [.bool q, .bool s, .int .i64 d]]], [.ptr 0 0 0 1, a1] => some ([.cells 3 false (.agg [.bool false, .bool false, .int .i64 0]) [.agg [.bool ((Scan.mk q s d.toNat).see (dec_u8 a1)).q, .bool ((Scan.mk q s d.toNat).see (dec_u8 a1)).s, .int .i64 ((Scan.mk q s d.toNat).see (dec_u8 a1)).d]]], .tuple [], (z = .agg [.bool false, .bool false, .int .i64 0]) ∧ (0 ≤ d ∧ d ≤ 100000000) ∧ argOK a1 (enc_u8 (dec_u8 a1)))
  | _, _ => none
theorem tb_specSee_ok : ∀ E args E' res p, tb_specSee E args = some (E', res, p) → p → SpecE Tryz.prog 104 E args E' res := by
  intro E args E' res p h hp
  unfold tb_specSee at h
  split at h
  · simp only [Option.some.injEq, Prod.mk.injEq] at h
    obtain ⟨rfl, rfl, rfl⟩ := h
    obtain ⟨rfl, hp⟩ := hp
    exact SpecE.args (specSee _ _ _ _ hp.1) (.cons (argOK.refl _) (.cons hp.2 .nil))
  · cases h
def T_specEnds : Tbl := fun g E args => (addT (addT nilT 105 Go.Proofs.Tryz.Lists.tb_specClosed) 104 Go.Proofs.Tryz.Lists.tb_specSee) g E args
theorem T_specEnds_ok : TblOK Tryz.prog T_specEnds := (addT_ok (addT_ok nilT_ok (by decide +kernel) Go.Proofs.Tryz.Lists.tb_specClosed_ok) (by decide +kernel) Go.Proofs.Tryz.Lists.tb_specSee_ok)
set_option maxRecDepth 100000 in
set_option maxHeartbeats 4000000 in
theorem specEnds (s : List UInt8) (hs : s.length ≤ 100000000) : SpecE Tryz.prog 64 [] [.str s] [] (.bool (endsS s)) := by
  refine specF0 (C := T_specEnds) (wr := false) (D := fun _ => []) (U := fun _ => none) (res := [.bool (endsS s)]) Tryz.Ty.mixed T_specEnds_ok Tryz.func64 (nA := 1) (by decide +kernel) rfl (fun _ => rfl) ?_
  simp only [Tryz.f64, bodyOf, rlOf]
  rw [W_V]
  simp (config := {maxSteps := 2000000}) only [T_specEnds, Go.Proofs.Tryz.Lists.tb_specClosed, Go.Proofs.Tryz.Lists.tb_specSee, go_sem, seval]
  (try simp (config := {maxSteps := 2000000}) only [gimp, impB, isT, go_sem, seval])
  refine VL_inv (X := Nat) (fun x => ⟨[(0, .str s), (3, .ptr 64 0 0 1), (6, .int .i64 s.length), (7, .int .i64 x)], [(64, .cells 3 false (.agg [.bool false, .bool false, .int .i64 0]) [.agg [.bool (scan0.run (s.take x)).q, .bool (scan0.run (s.take x)).s, .int .i64 (scan0.run (s.take x)).d]])]⟩) (fun x => x ≤ s.length) (fun x => s.length - x) 0 ?_ ?_ ?_
  · simp only [go_sem, go_sem, seval]
    try rfl
  · exact Nat.zero_le _
  rintro x hx
  simp (config := {maxSteps := 2000000}) only [T_specEnds, Go.Proofs.Tryz.Lists.tb_specClosed, Go.Proofs.Tryz.Lists.tb_specSee, go_sem, seval]
  (try simp (config := {maxSteps := 2000000}) only [gimp, impB, isT, go_sem, seval])
  have h1 := Scan.run_d (s.take x) scan0
  have h2 : (s.take x).length ≤ s.length := by rw [List.length_take]; omega
  have h3 : scan0.d = 0 := rfl
  (repeat' (first | refine And.intro ?_ ?_ | intro _))
  all_goals (try first | omega | assumption | contradiction)
  · refine ⟨x + 1, ⟨by omega, ?_⟩, by omega, by omega⟩
    rw [Scan.run_take (by omega)]
  · have : x = s.length := by omega
    subst this
    rw [List.take_length]; rfl
def tb_specEnds : List Blk → List AV → Option (List Blk × AV × Prop)
  | [], [.str s] => some ([], .bool (endsS s), (s.length ≤ 100000000))
  | _, _ => none
theorem tb_specEnds_ok : ∀ E args E' res p, tb_specEnds E args = some (E', res, p) → p → SpecE Tryz.prog 64 E args E' res := by
  intro E args E' res p h hp
  unfold tb_specEnds at h
  split at h
  · simp only [Option.some.injEq, Prod.mk.injEq] at h
    obtain ⟨rfl, rfl, rfl⟩ := h
    exact (specEnds _ hp)
  · cases h
def T_specElements : Tbl := fun g E args => nilT g E args
theorem T_specElements_ok : TblOK Tryz.prog T_specElements := nilT_ok
set_option maxRecDepth 100000 in
set_option maxHeartbeats 4000000 in
theorem specElements (s : List UInt8) : SpecE Tryz.prog 65 [] [.str s] [.cells 1 false (.str []) [.str s]] (.clo 106 0 [.ptr 0 0 0 1]) := by
  refine specFE (C := T_specElements) (wr := false) (D := fun _ => []) (U := fun _ => none) (E := []) (E' := [.cells 1 false (.str []) [.str s]]) (res := [.clo 106 0 [.ptr 0 0 0 1]]) [32] Tryz.Ty.mixed T_specElements_ok Tryz.func65 (args := [.str s]) (nE := 0) (nA := 1) (by decide +kernel) rfl rfl ?_
  simp only [Tryz.f65, bodyOf, rlOf]
  rw [W_V]
  simp (config := {maxSteps := 2000000}) only [T_specElements, go_sem, seval]
  (try simp (config := {maxSteps := 2000000}) only [gimp, impB, isT, go_sem, seval])
def tb_specElements : List Blk → List AV → Option (List Blk × AV × Prop)
  | [], [.str s] => some ([.cells 1 false (.str []) [.str s]], .clo 106 0 [.ptr 0 0 0 1], True)
  | _, _ => none
theorem tb_specElements_ok : ∀ E args E' res p, tb_specElements E args = some (E', res, p) → p → SpecE Tryz.prog 65 E args E' res := by
  intro E args E' res p h hp
  unfold tb_specElements at h
  split at h
  · simp only [Option.some.injEq, Prod.mk.injEq] at h
    obtain ⟨rfl, rfl, rfl⟩ := h
    exact (specElements _)
  · cases h
noncomputable def lcS : LoopC := lcOf Tryz.f31 21
noncomputable def recS : Blk := .loop lcS .ready none [(10, .clo 106 0 [.ptr 1 0 0 1]), (4, .ptr 2 0 0 1)]
def DS : Nat → List Nat := fun i => if i = dN then [21] else []
def T_yldS0 : Tbl := addT nilT 66 Oct.tb_specTrim
theorem T_yldS0_ok : TblOK Tryz.prog T_yldS0 := addT_ok nilT_ok (by decide +kernel) Oct.tb_specTrim_ok
set_option maxRecDepth 100000 in
set_option maxHeartbeats 4000000 in
theorem yldS (s p : List UInt8) (l : List (List UInt8)) (hp : p.length ≤ maxLen) (hl : l.length ≤ 200000000) :
    SpecE Tryz.prog yldF (recS :: [.cells 1 false (.str []) [.str s], .cells 1 false .nils [.ref 3 0 l.length l.length], .cells 1 false (.str []) (l.map .str)]) (.yld 0 :: [.str p])
      [recS, .cells 1 false (.str []) [.str s], .cells 1 false .nils [.ref 3 0 (l ++ keepE [p]).length (l ++ keepE [p]).length], .cells 1 false (.str []) ((l ++ keepE [p]).map .str)] (.bool true) := by
  refine specY (C := T_yldS0) (wr := false) (D := DS) (U := fun _ => none) (nE := 4) [] Tryz.Ty.mixed T_yldS0_ok (by decide +kernel) rfl rfl ?_
  have hA : lcS.assign = lcS.assign := rfl
  have hB : lcS.body = lcS.body := rfl
  conv at hA => rhs; simp only [lcS, lcOf, rangeIn, bodyOf, Tryz.f31]
  conv at hB => rhs; simp only [lcS, lcOf, rangeIn, bodyOf, Tryz.f31]
  have hP : lcS.ps.toList = [11] := rfl
  rw [hA, W_V]
  simp (config := {maxSteps := 200000000}) only [hP, recS, T_yldS0, Oct.tb_specTrim, go_sem, go_sem, seval, true_and]
  rw [hB]
  simp (config := {maxSteps := 200000000}) only [hP, recS, T_yldS0, Oct.tb_specTrim, go_sem, go_sem, seval, true_and]
  clear hA hB hP
  refine ⟨hp, fun h => ?_, fun h => ?_⟩
  · have e : keepE [p] = [trimS p] := by simp [keepE, h]
    rw [e]
    refine ⟨by omega, ?_⟩
    simp
  · have e : keepE [p] = [] := by simp [keepE, h]
    rw [e, List.append_nil]
    simp
def tb_yldS : List Blk → List AV → Option (List Blk × AV × Prop)
  | [b0, .cells 1 false d1 [.str s], .cells 1 false d2 [.ref 3 0 n m], .cells 1 false d3 c], [.yld 0, .str p] =>
    some ([b0, .cells 1 false d1 [.str s], .cells 1 false d2 [.ref 3 0 (c.length + (keepE [p]).length) (c.length + (keepE [p]).length)], .cells 1 false d3 (c ++ (keepE [p]).map .str)], .bool true,
      b0 = recS ∧ d1 = .str [] ∧ d2 = .nils ∧ d3 = .str [] ∧ n = c.length ∧ m = c.length ∧ (c.map toStr).map .str = c ∧ p.length ≤ maxLen ∧ c.length ≤ 200000000)
  | _, _ => none
theorem tb_yldS_ok : ∀ E args E' res q, tb_yldS E args = some (E', res, q) → q → SpecE Tryz.prog yldF E args E' res := by
  intro E args E' res q h hq
  unfold tb_yldS at h
  split at h
  · rename_i b0 d1 s d2 n m d3 c p
    simp only [Option.some.injEq, Prod.mk.injEq] at h
    obtain ⟨rfl, rfl, rfl⟩ := h
    obtain ⟨rfl, rfl, rfl, rfl, rfl, rfl, h1, h2, h3⟩ := hq
    have := yldS s p (c.map toStr) h2 (by rw [List.length_map]; exact h3)
    simp only [List.map_append, h1, List.length_append, List.length_map] at this
    exact this
  · cases h
def yT : Tbl := addT nilT yldF tb_yldS
theorem yT_ok : TblOK Tryz.prog yT := addT_ok nilT_ok (by simp) tb_yldS_ok
def T_specElementsF : Tbl := fun g E args => (addT (addT yT 105 Go.Proofs.Tryz.Lists.tb_specClosed) 104 Go.Proofs.Tryz.Lists.tb_specSee) g E args
theorem T_specElementsF_ok : TblOK Tryz.prog T_specElementsF := (addT_ok (addT_ok yT_ok (by decide +kernel) Go.Proofs.Tryz.Lists.tb_specClosed_ok) (by decide +kernel) Go.Proofs.Tryz.Lists.tb_specSee_ok)
set_option maxRecDepth 100000 in
set_option maxHeartbeats 4000000 in
theorem specElementsF (s : List UInt8) (l : List (List UInt8)) (hs : s.length ≤ 100000000) (hl : l.length ≤ 10) : SpecE Tryz.prog 106 [recS, .cells 1 false (.str []) [.str s], .cells 1 false .nils [.ref 3 0 l.length l.length], .cells 1 false (.str []) (l.map .str)] [.yld 0, .ptr 1 0 0 1] [recS, .cells 1 false (.str []) [.str s], .cells 1 false .nils [.ref 3 0 (l ++ keepE (elemsS s)).length (l ++ keepE (elemsS s)).length], .cells 1 false (.str []) ((l ++ keepE (elemsS s)).map .str)] (.tuple []) := by
  refine specFE (C := T_specElementsF) (wr := false) (D := fun _ => []) (U := fun _ => none) (E := [recS, .cells 1 false (.str []) [.str s], .cells 1 false .nils [.ref 3 0 l.length l.length], .cells 1 false (.str []) (l.map .str)]) (E' := [recS, .cells 1 false (.str []) [.str s], .cells 1 false .nils [.ref 3 0 (l ++ keepE (elemsS s)).length (l ++ keepE (elemsS s)).length], .cells 1 false (.str []) ((l ++ keepE (elemsS s)).map .str)]) (res := []) [] Tryz.Ty.mixed T_specElementsF_ok Tryz.func106 (args := [.yld 0, .ptr 1 0 0 1]) (nE := 4) (nA := 2) (by decide +kernel) rfl rfl ?_
  simp only [Tryz.f106, bodyOf, rlOf]
  rw [W_V]
  simp (config := {maxSteps := 2000000}) only [T_specElementsF, Go.Proofs.Tryz.Lists.tb_specClosed, Go.Proofs.Tryz.Lists.tb_specSee, go_sem, seval, yT, tb_yldS, recS]
  (try simp (config := {maxSteps := 2000000}) only [gimp, impB, isT, go_sem, seval])
  refine VL_inv (X := Nat × Nat × Scan × List (List UInt8)) (fun y => ⟨[(8, .int .i64 y.1), (7, .int .i64 s.length), (4, .int .i64 y.2.1), (3, .ptr 64 0 0 1), (0, .yld 0), (1, .ptr 1 0 0 1)],
    [(64, .cells 3 false (.agg [.bool false, .bool false, .int .i64 0]) [.agg [.bool y.2.2.1.q, .bool y.2.2.1.s, .int .i64 y.2.2.1.d]]), (0, recS), (1, .cells 1 false (.str []) [.str s]), (2, .cells 1 false .nils [.ref 3 0 (l ++ keepE y.2.2.2).length (l ++ keepE y.2.2.2).length]), (3, .cells 1 false (.str []) ((l ++ keepE y.2.2.2).map .str))]⟩)
    (fun y => y.1 ≤ s.length ∧ y.2.1 ≤ y.1 ∧ y.2.2.1.d ≤ y.1 ∧ y.2.2.2.length ≤ y.2.1 ∧ elemsS s = y.2.2.2 ++ elemsGo y.2.2.1 ((s.take y.1).drop y.2.1) (s.drop y.1)) (fun y => s.length - y.1) (0, 0, scan0, []) ?_ ?_ ?_
  · simp only [recS, go_sem, go_sem, seval, keepE, List.filter_nil]
    try rfl
  · exact ⟨Nat.zero_le _, Nat.le_refl _, Nat.le_refl _, Nat.le_refl _, by simp [elemsS]⟩
  rintro ⟨i, fr, x, dn⟩ ⟨i1, i2, i3, i4, i5⟩
  simp only at i1 i2 i3 i4 i5
  simp (config := {maxSteps := 2000000}) only [T_specElementsF, Go.Proofs.Tryz.Lists.tb_specClosed, Go.Proofs.Tryz.Lists.tb_specSee, go_sem, seval, yT, tb_yldS, recS]
  (try simp (config := {maxSteps := 2000000}) only [gimp, impB, isT, go_sem, seval])
  have hm : ∀ (σ : Nat → Nat) (a b : List (List UInt8)), ((a.map AV.str) ++ (b.map AV.str)).map (ren σ) = (a ++ b).map AV.str := fun σ a b => by rw [← List.map_append, ren_map (fun _ => rfl)]
  have hk : ∀ a b : List (List UInt8), (l ++ keepE a).length + (keepE b).length = (l ++ keepE (a ++ b)).length := fun a b => by rw [keepE_append]; simp only [List.length_append]; omega
  have hj : ∀ a b : List (List UInt8), (l ++ keepE a) ++ keepE b = l ++ keepE (a ++ b) := fun a b => by rw [keepE_append, List.append_assoc]
  have hle : ∀ a : List (List UInt8), (keepE a).length ≤ a.length := fun a => by
    have := List.length_filter_le (fun e => !decide (e = [])) (a.map trimS)
    simpa [keepE] using this
  have hd := hle dn
  have hmx : (200000000 : Nat) ≤ maxLen := by decide
  simp only [hm, hk, hj]
  have next : ∀ hlt : i < s.length, ¬ (s.getD i 0 = 44 ∧ x.closed = true) → elemsS s = dn ++ elemsGo (x.see (s.getD i 0)) ((s.take (i + 1)).drop fr) (s.drop (i + 1)) := fun hlt hc => by
    rw [i5, drop_cons hlt, elemsGo_cons, if_neg hc, take_succ_getD 0 hlt, List.drop_append_of_le_length (by rw [List.length_take]; omega)]
  have hsd := Scan.see_d x (s.getD i 0)
  (repeat' (first | refine And.intro ?_ ?_ | intro _))
  all_goals (try first | omega | assumption | contradiction)
  · rw [List.length_drop, List.length_take]; omega
  · rw [List.length_append]; omega
  · rename_i h1 h2 h3 h4
    refine ⟨(i + 1, i + 1, x, dn ++ [(s.take i).drop fr]), ⟨⟨by simp only; omega, by simp only; omega⟩, ⟨rfl, rfl, rfl⟩, rfl, rfl⟩, ⟨by simp only; omega, Nat.le_refl _, by simp only; omega, by simp only [List.length_append, List.length_cons, List.length_nil]; omega, ?_⟩, by simp only; omega⟩
    simp only
    have e9 := drop_cons (s := s) (i := i) (by omega)
    have e8 : (s.take (i + 1)).drop (i + 1) = [] := List.drop_eq_nil_of_le (by rw [List.length_take]; omega)
    rw [i5, e9, elemsGo_cons, if_pos ⟨h2, h4⟩, List.append_assoc, e8]
    rfl
  · rename_i h1 h2 h3
    refine ⟨(i + 1, fr, x.see (s.getD i 0), dn), ⟨⟨by simp only; omega, rfl⟩, ⟨rfl, rfl, rfl⟩, rfl, rfl⟩, ⟨by simp only; omega, by simp only; omega, by simp only; omega, i4, next (by omega) (fun ⟨e1, e2⟩ => by
      have e3 : (Scan.mk x.q x.s x.d).closed = true := e2
      rw [decide_eq_true e1, e3] at h3; cases h3)⟩, by simp only; omega⟩
  · rename_i h1 h2
    refine ⟨(i + 1, fr, x.see (s.getD i 0), dn), ⟨⟨by simp only; omega, rfl⟩, ⟨rfl, rfl, rfl⟩, rfl, rfl⟩, ⟨by simp only; omega, by simp only; omega, by simp only; omega, i4, next (by omega) (fun ⟨e1, e2⟩ => h2 e1)⟩, by simp only; omega⟩
  · rw [List.length_drop]; omega
  · rw [List.length_append]; omega
  all_goals (
    have e0 : i = s.length := by omega
    subst e0
    rw [List.take_length, List.drop_length] at i5
    have e : elemsS s = dn ++ [s.drop fr] := i5
    rw [e])
def tb_elementsF : List Blk → List AV → Option (List Blk × AV × Prop)
  | [b0, .cells 1 false d1 [.str s], .cells 1 false d2 [.ref 3 0 n m], .cells 1 false d3 c], [.yld 0, .ptr 1 0 0 1] =>
    some ([b0, .cells 1 false d1 [.str s], .cells 1 false d2 [.ref 3 0 (keepE (elemsS s)).length (keepE (elemsS s)).length], .cells 1 false d3 ((keepE (elemsS s)).map .str)], .tuple [],
      b0 = recS ∧ d1 = .str [] ∧ d2 = .nils ∧ d3 = .str [] ∧ n = 0 ∧ m = 0 ∧ c = [] ∧ s.length ≤ 100000000)
  | _, _ => none
theorem tb_elementsF_ok : ∀ E args E' res q, tb_elementsF E args = some (E', res, q) → q → SpecE Tryz.prog 106 E args E' res := by
  intro E args E' res q h hq
  unfold tb_elementsF at h
  split at h
  · simp only [Option.some.injEq, Prod.mk.injEq] at h
    obtain ⟨rfl, rfl, rfl⟩ := h
    obtain ⟨rfl, rfl, rfl, rfl, rfl, rfl, rfl, h3⟩ := hq
    have := specElementsF _ [] h3 (by decide)
    simpa using this
  · cases h
def eT : Tbl := addT nilT 106 tb_elementsF
theorem eT_ok : TblOK Tryz.prog eT := addT_ok nilT_ok (by decide +kernel) tb_elementsF_ok
def T_specSplit : Tbl := fun g E args => (addT (addT (addT eT 64 Go.Proofs.Tryz.Lists.tb_specEnds) 66 Go.Proofs.Tryz.Oct.tb_specTrim) 65 Go.Proofs.Tryz.Lists.tb_specElements) g E args
theorem T_specSplit_ok : TblOK Tryz.prog T_specSplit := (addT_ok (addT_ok (addT_ok eT_ok (by decide +kernel) Go.Proofs.Tryz.Lists.tb_specEnds_ok) (by decide +kernel) Go.Proofs.Tryz.Oct.tb_specTrim_ok) (by decide +kernel) Go.Proofs.Tryz.Lists.tb_specElements_ok)
set_option maxRecDepth 100000 in
set_option maxHeartbeats 4000000 in
theorem specSplit (s : List UInt8) (hs : s.length ≤ 100000000) : SpecE Tryz.prog 31 [] [.str s] [] (.tuple [enc_strs (splitS s), .bool (endsS s)]) := by
  refine specFEM (C := T_specSplit) (wr := false) (D := DS) (U := fun _ => none) (E := []) (E' := []) (res := [enc_strs (splitS s), .bool (endsS s)]) [] Tryz.Ty.mixed T_specSplit_ok Tryz.func31 (args := [.str s]) (nE := 0) (nA := 1) (by decide +kernel) rfl rfl ?_
  simp only [Tryz.f31, bodyOf, rlOf]
  rw [W_V]
  simp (config := {maxSteps := 2000000}) only [T_specSplit, Go.Proofs.Tryz.Lists.tb_specEnds, Go.Proofs.Tryz.Oct.tb_specTrim, Go.Proofs.Tryz.Lists.tb_specElements, go_sem, seval, eT, tb_elementsF, recS, FinEM, FinEvM]
  (try simp (config := {maxSteps := 2000000}) only [gimp, impB, isT, go_sem, seval])
  refine ⟨hs, fun h => ⟨by simp [splitS, h], h.symm⟩, fun h => ?_⟩
  refine VR_intro ⟨[(10, .clo 106 0 [.ptr 176 0 0 1]), (4, .ptr 80 0 0 1)], [(176, .cells 1 false (.str []) [.str s]), (80, .cells 1 false .nils [.ref 320 0 0 0]), (320, .cells 1 false (.str []) [])]⟩ lcS ?_ rfl rfl rfl rfl ?_
  · simp only [go_sem, go_sem, seval]
  simp (config := {maxSteps := 2000000}) only [T_specSplit, Go.Proofs.Tryz.Lists.tb_specEnds, Go.Proofs.Tryz.Oct.tb_specTrim, Go.Proofs.Tryz.Lists.tb_specElements, go_sem, seval, eT, tb_elementsF, recS, FinEM, FinEvM]
  (try simp (config := {maxSteps := 2000000}) only [gimp, impB, isT, go_sem, seval])
  refine ⟨by decide +kernel, hs, ⟨?_, h.symm⟩, fun b hb => by cases hb; rfl⟩
  rw [List.take_length, splitS, if_pos h]
def tb_specSplit : List Blk → List AV → Option (List Blk × AV × Prop)
  | [], [.str s] => some ([], .tuple [enc_strs (splitS s), .bool (endsS s)], (s.length ≤ 100000000))
  | _, _ => none
theorem tb_specSplit_ok : ∀ E args E' res p, tb_specSplit E args = some (E', res, p) → p → SpecE Tryz.prog 31 E args E' res := by
  intro E args E' res p h hp
  unfold tb_specSplit at h
  split at h
  · simp only [Option.some.injEq, Prod.mk.injEq] at h
    obtain ⟨rfl, rfl, rfl⟩ := h
    exact (specSplit _ hp)
  · cases h
def T_specHasP : Tbl := fun g E args => (addT nilT 35 Go.Proofs.Tryz.Oct.tb_specFold) g E args
theorem T_specHasP_ok : TblOK Tryz.prog T_specHasP := (addT_ok nilT_ok (by decide +kernel) Go.Proofs.Tryz.Oct.tb_specFold_ok)
set_option maxRecDepth 100000 in
set_option maxHeartbeats 4000000 in
theorem specHasP (e w : List UInt8) (hs : e.length ≤ maxLen) : SpecE Tryz.prog 126 [.cells 1 false (.str []) [.str w]] [.str e, .ptr 0 0 0 1] [.cells 1 false (.str []) [.str w]] (.bool (foldS e w)) := by
  refine specFE (C := T_specHasP) (wr := false) (D := fun _ => []) (U := fun _ => none) (E := [.cells 1 false (.str []) [.str w]]) (E' := [.cells 1 false (.str []) [.str w]]) (res := [.bool (foldS e w)]) [] Tryz.Ty.mixed T_specHasP_ok Tryz.func126 (args := [.str e, .ptr 0 0 0 1]) (nE := 1) (nA := 2) (by decide +kernel) rfl rfl ?_
  simp only [Tryz.f126, bodyOf, rlOf]
  rw [W_V]
  simp (config := {maxSteps := 2000000}) only [T_specHasP, Go.Proofs.Tryz.Oct.tb_specFold, go_sem, seval]
  (try simp (config := {maxSteps := 2000000}) only [gimp, impB, isT, go_sem, seval])
  exact hs
set_option maxRecDepth 100000 in
set_option maxHeartbeats 4000000 in
theorem specHasF (l : List (List UInt8)) (w : List UInt8) (hl : l.length ≤ maxLen) (hq : ∀ x ∈ l, x.length ≤ maxLen) : SpecE Tryz.prog 125 [.cells 1 false (.str []) [.str w]] [enc_strs l, .clo 126 0 [.ptr 0 0 0 1]] [.cells 1 false (.str []) [.str w]] (.bool (l.any fun e => foldS e w)) := by
  exact Slc.has_S (by decide) (boxStr w) (fun _ => rfl) (q := fun x => x.length ≤ maxLen) (fun x hx => specHasP x w hx) l hq hl
def tb_specHasF : List Blk → List AV → Option (List Blk × AV × Prop)
  | [.cells 1 false d [.str w]], [a0, .clo 126 0 [.ptr 0 0 0 1]] => some ([.cells 1 false (.str []) [.str w]], .bool ((dec_strs a0).any fun e => foldS e w), (d = .str []) ∧ ((dec_strs a0).length ≤ maxLen) ∧ (∀ x ∈ (dec_strs a0), x.length ≤ maxLen) ∧ argOK a0 (enc_strs (dec_strs a0)))
  | _, _ => none
theorem tb_specHasF_ok : ∀ E args E' res p, tb_specHasF E args = some (E', res, p) → p → SpecE Tryz.prog 125 E args E' res := by
  intro E args E' res p h hp
  unfold tb_specHasF at h
  split at h
  · simp only [Option.some.injEq, Prod.mk.injEq] at h
    obtain ⟨rfl, rfl, rfl⟩ := h
    obtain ⟨rfl, hp⟩ := hp
    exact SpecE.args (specHasF _ _ hp.1 hp.2.1) (.cons hp.2.2 (.cons (argOK.refl _) .nil))
  · cases h
def T_specJoin : Tbl := fun g E args => (addT nilT 46 Go.Proofs.Tryz.Lib.tb_specJoin) g E args
theorem T_specJoin_ok : TblOK Tryz.prog T_specJoin := (addT_ok nilT_ok (by decide +kernel) Go.Proofs.Tryz.Lib.tb_specJoin_ok)
set_option maxRecDepth 100000 in
set_option maxHeartbeats 4000000 in
theorem specJoin (l : List (List UInt8)) (hn : l.length ≤ 1000000) (hj : (Lib.join l [44, 32]).length ≤ 140737488355328) : SpecE Tryz.prog 63 [] [enc_strs l] [] (.str (Lib.join l [44, 32])) := by
  refine specF0 (C := T_specJoin) (wr := false) (D := fun _ => []) (U := fun _ => none) (res := [.str (Lib.join l [44, 32])]) Tryz.Ty.mixed T_specJoin_ok Tryz.func63 (nA := 1) (by decide +kernel) rfl (fun _ => rfl) ?_
  simp only [Tryz.f63, bodyOf, rlOf]
  rw [W_V]
  simp (config := {maxSteps := 2000000}) only [T_specJoin, Go.Proofs.Tryz.Lib.tb_specJoin, go_sem, seval]
  (try simp (config := {maxSteps := 2000000}) only [gimp, impB, isT, go_sem, seval])
  exact ⟨hn, hj⟩
def tb_specJoin : List Blk → List AV → Option (List Blk × AV × Prop)
  | [], [a0] => some ([], .str (Lib.join (dec_strs a0) [44, 32]), ((dec_strs a0).length ≤ 1000000) ∧ ((Lib.join (dec_strs a0) [44, 32]).length ≤ 140737488355328) ∧ argOK a0 (enc_strs (dec_strs a0)))
  | _, _ => none
theorem tb_specJoin_ok : ∀ E args E' res p, tb_specJoin E args = some (E', res, p) → p → SpecE Tryz.prog 63 E args E' res := by
  intro E args E' res p h hp
  unfold tb_specJoin at h
  split at h
  · simp only [Option.some.injEq, Prod.mk.injEq] at h
    obtain ⟨rfl, rfl, rfl⟩ := h
    exact SpecE.args (specJoin _ hp.1 hp.2.1) (.cons hp.2.2 .nil)
  · cases h
end Go.Proofs.Tryz.Lists
end
section
set_option linter.unusedVariables false
set_option linter.unusedSimpArgs false
namespace Go.Mdl
open Go Go.Abs
theorem join_eq : ∀ l : List (List UInt8), Lib.join l [44, 32] = joinS l
  | [] => rfl
  | [a] => by simp [Lib.join, joinS, List.intercalate]
  | a :: b :: r => by
    have ih := join_eq (b :: r)
    simp only [Lib.join, List.intercalate, List.intersperse, List.flatten_cons, joinS] at ih ⊢
    rw [ih]; simp
def Scan.fine (x : Scan) : Prop := x.s = true → x.q = true ∨ 0 < x.d
theorem Scan.fine_see {x : Scan} (h : x.fine) (c : UInt8) : (x.see c).fine := by
  obtain ⟨q, s, d⟩ := x
  simp only [Scan.fine, Scan.see] at h ⊢
  (repeat' split) <;> simp_all
theorem Scan.fine_run : ∀ (l : List UInt8) {x : Scan}, x.fine → (x.run l).fine
  | [], x, h => h
  | c :: r, x, h => Scan.fine_run r (Scan.fine_see h c)
theorem see_blank {x : Scan} (h : x.fine) {c : UInt8} (hb : blankB c = true) (hc : (x.see c).closed = true) : x = scan0 := by
  have hc' : c = 32 ∨ c = 9 := by simpa [blankB] using hb
  obtain ⟨q, s, d⟩ := x
  have e := Scan.closed_iff.1 hc
  simp only [Scan.see, scan0] at e
  simp only [Scan.fine] at h
  rcases hc' with rfl | rfl <;> (cases s <;> cases q <;> simp_all [scan0])
theorem trim_cons {c : UInt8} {e : List UInt8} (h : blankB c = true) : trimS (c :: e) = trimS e := by simp [trimS, trimL, h]
theorem keep_lead {c : UInt8} (hb : blankB c = true) : ∀ {x : Scan} {l cur : List UInt8}, keepE (elemsGo x (c :: cur) l) = keepE (elemsGo x cur l)
  | x, [], cur => by
    have h := trim_cons (e := cur) hb
    simp only [elemsGo, keepE_one, h]
  | x, d :: r, cur => by
    rw [elemsGo_cons, elemsGo_cons]
    split
    · have h := trim_cons (e := cur) hb
      have e1 : ∀ (a : List UInt8) (t : List (List UInt8)), keepE (a :: t) = keepE [a] ++ keepE t := fun a t => keepE_append [a] t
      rw [e1, e1 cur, keepE_one, keepE_one, h]
    · exact keep_lead hb
end Go.Mdl
namespace Go.Proofs.Tryz.Lists
open Go Go.Abs Go.Proofs Go.Mdl
end Go.Proofs.Tryz.Lists
end
section
set_option linter.unusedVariables false
set_option linter.unusedSimpArgs false
namespace Go.Mdl
open Go Go.Abs
theorem arr_get (s : List UInt8) (j : Nat) : (ByteArray.mk s.toArray).data[j]! = s.getD j 0 := by
  simp [List.getD_eq_getElem?_getD, getElem!_def]
  cases s[j]? <;> rfl
theorem last_up (c : UInt8) (s : List UInt8) : Lib.lastIndexByte ⟨s.toArray⟩ (c.toNat : Int) = lastUp c s := by
  have hnot : ∀ {t : List UInt8} , (∀ j, j < t.length → t.getD j 0 ≠ c) → c ∉ t := by
    intro t h hm
    obtain ⟨j, hj⟩ := List.getElem?_of_mem hm
    have hl := (List.getElem?_eq_some_iff.1 hj).1
    rw [getD_of_lt (d := 0) hl] at hj
    exact h j hl (Option.some.inj hj)
  have hsz : (ByteArray.mk s.toArray).size = s.length := by simp [ByteArray.size]
  rcases Lib.lastIdx_spec ⟨s.toArray⟩ (c.toNat : Int) s.length with ⟨h1, h2⟩ | ⟨i, hi, h1, h2, h3⟩
  · have hn : c ∉ s := hnot (fun j hj e => h2 j hj (by rw [arr_get, e]))
    show Lib.lastIdx _ _ (ByteArray.mk s.toArray).size = _
    rw [hsz, h1]
    rcases Int.lt_or_le (lastUp c s) 0 with h | h
    · have := lastUp_ge c s; omega
    · exact absurd (by rw [(lastUp_spec h).1]; simp) hn
  · show Lib.lastIdx _ _ (ByteArray.mk s.toArray).size = _
    rw [hsz, h1]
    rw [arr_get] at h2
    have hc : s.getD i 0 = c := UInt8.toNat.inj (by omega)
    have hn : c ∉ s.drop (i + 1) := hnot (fun j hj e => by
      rw [getD_drop] at e
      rw [List.length_drop] at hj
      exact h3 (i + 1 + j) (by omega) (by omega) (by rw [arr_get, e]))
    have e : s = s.take i ++ c :: s.drop (i + 1) := by
      have := drop_cons hi
      rw [hc] at this
      rw [← this, List.take_append_drop]
    conv => rhs; rw [e]
    rw [lastUp_at hn, List.length_take]; omega
def litI (r : Int) : Bool := hexI r || decide (r = 58) || decide (r = 46)
theorem lit_rune : RuneB litI litB false := by
  refine ⟨fun c _ => ?_, fun r h => ?_, fun c h => ?_⟩
  · simp only [litI, litB, hexB, u8_lit, Nat.reduceLT]
  · have : hexI r = false := by simp [hexI]; omega
    simp only [litI, this, Bool.false_or, Bool.or_eq_false_iff, decide_eq_false_iff_not]; omega
  · have h1 : hexI c.toNat = false := by simp [hexI]; omega
    have h2 : c ≠ 58 := by rintro rfl; revert h; decide
    have h3 : c ≠ 46 := by rintro rfl; revert h; decide
    simp [litB, hexB, h1, h2, h3]
def inner (s : List UInt8) : List UInt8 := Lib.trimSuffix (Lib.trimPrefix s [91]) [93]
theorem lit_eq (s : List UInt8) : (Lib.hasPrefix s [91] && (inner s).all litB && Lib.hasSuffix (Lib.trimPrefix s [91]) [93] && !decide (inner s = [])) = litS s := by
  have hpre : ∀ {t : List UInt8} {c : UInt8}, Lib.hasPrefix t [c] = true ↔ ∃ r, t = c :: r := by
    intro t c
    simp only [Lib.hasPrefix, List.isPrefixOf_iff_prefix]
    constructor
    · rintro ⟨r, hr⟩; exact ⟨r, by simpa using hr.symm⟩
    · rintro ⟨r, rfl⟩; exact ⟨r, rfl⟩
  have hsuf : ∀ {t : List UInt8} {c : UInt8}, Lib.hasSuffix t [c] = true ↔ ∃ r, t = r ++ [c] := by
    intro t c
    simp only [Lib.hasSuffix, List.isSuffixOf_iff_suffix]
    constructor
    · rintro ⟨r, hr⟩; exact ⟨r, hr.symm⟩
    · rintro ⟨r, rfl⟩; exact ⟨r, rfl⟩
  rw [Bool.eq_iff_iff, lit_form]
  simp only [Bool.and_eq_true, Bool.not_eq_true', decide_eq_false_iff_not]
  constructor
  · rintro ⟨⟨⟨h1, h2⟩, h3⟩, h4⟩
    obtain ⟨r, rfl⟩ := hpre.1 h1
    have e1 : Lib.trimPrefix (91 :: r) [91] = r := by simp only [Lib.trimPrefix, h1, if_true]; rfl
    rw [e1] at h3
    obtain ⟨m, rfl⟩ := hsuf.1 h3
    have e2 : inner (91 :: (m ++ [93])) = m := by simp only [inner, e1, Lib.trimSuffix, h3, if_true]; simp
    rw [e2] at h2 h4
    exact ⟨m, h4, h2, rfl⟩
  · rintro ⟨m, h1, h2, rfl⟩
    have h3 : Lib.hasPrefix (91 :: (m ++ [93])) [91] = true := hpre.2 ⟨_, rfl⟩
    have e1 : Lib.trimPrefix (91 :: (m ++ [93])) [91] = m ++ [93] := by simp only [Lib.trimPrefix, h3, if_true]; rfl
    have h4 : Lib.hasSuffix (m ++ [93]) [93] = true := hsuf.2 ⟨_, rfl⟩
    have e2 : inner (91 :: (m ++ [93])) = m := by simp only [inner, e1, Lib.trimSuffix, h4, if_true]; simp
    rw [e1, e2]
    exact ⟨⟨⟨h3, h2⟩, h4⟩, h1⟩
theorem inner_len (s : List UInt8) : (inner s).length ≤ s.length := by
  have h1 : (Lib.trimPrefix s [91]).length ≤ s.length := by
    unfold Lib.trimPrefix; split
    · rw [List.length_drop]; omega
    · omega
  unfold inner
  generalize Lib.trimPrefix s [91] = t at *
  unfold Lib.trimSuffix; split
  · rw [List.length_take]; omega
  · omega
theorem host_ok {s : List UInt8} (h : hostErr s = 0) : hostName s = cutName s ∧ s ≠ [] ∧ nameS (cutName s) = true ∧ (cutHas s = false ∧ hostPort s = 80 ∨ cutHas s = true ∧ numErr 10 65535 (cutPort s) = 0 ∧ hostPort s = numVal 10 65535 (cutPort s)) := by
  have e1 : hostName s = cutName s := by simp [hostName, h]
  have e2 : hostPort s = if cutHas s = true then numVal 10 65535 (cutPort s) else 80 := by simp [hostPort, h]
  refine ⟨e1, ?_⟩
  unfold hostErr at h
  split at h
  · cases h
  · rename_i h0
    split at h
    · cases h
    · rename_i h1
      refine ⟨h0, by simpa using h1, ?_⟩
      split at h
      · rename_i h2
        exact .inl ⟨h2, by rw [e2, h2]; rfl⟩
      · rename_i h2
        have h2 : cutHas s = true := by simpa using h2
        split at h
        · rename_i h3
          exact .inr ⟨h2, h3, by rw [e2, h2]; rfl⟩
        · split at h <;> cases h
theorem host_bad {s : List UInt8} (h : hostErr s ≠ 0) : hostName s = [] ∧ hostPort s = 0 := by simp [hostName, hostPort, h]
end Go.Mdl
namespace Go.Proofs.Tryz.Host
open Go Go.Abs Go.Proofs Go.Mdl
def T_specLiteral : Tbl := fun g E args => (addT (addT (addT nilT 158 Go.Proofs.Tryz.Host.tb_specHex) 160 Go.Proofs.Tryz.Lib.tb_specCutPrefix) 161 Go.Proofs.Tryz.Lib.tb_specCutSuffix) g E args
theorem T_specLiteral_ok : TblOK Tryz.prog T_specLiteral := (addT_ok (addT_ok (addT_ok nilT_ok (by decide +kernel) Go.Proofs.Tryz.Host.tb_specHex_ok) (by decide +kernel) Go.Proofs.Tryz.Lib.tb_specCutPrefix_ok) (by decide +kernel) Go.Proofs.Tryz.Lib.tb_specCutSuffix_ok)
set_option maxRecDepth 100000 in
set_option maxHeartbeats 4000000 in
theorem specLiteral (s : List UInt8) (hs : s.length ≤ maxLen) : SpecE Tryz.prog 120 [] [.str s] [] (.bool (litS s)) := by
  refine specF0 (C := T_specLiteral) (wr := false) (D := fun _ => []) (U := fun _ => none) (res := [.bool (litS s)]) Tryz.Ty.mixed T_specLiteral_ok Tryz.func120 (nA := 1) (by decide +kernel) rfl (fun _ => rfl) ?_
  simp only [Tryz.f120, bodyOf, rlOf]
  rw [W_V]
  simp (config := {maxSteps := 2000000}) only [T_specLiteral, Go.Proofs.Tryz.Host.tb_specHex, Go.Proofs.Tryz.Lib.tb_specCutPrefix, Go.Proofs.Tryz.Lib.tb_specCutSuffix, go_sem, reduceIte, Nat.reduceEqDiff, Nat.reduceAdd, Nat.reduceMul, Nat.reduceDiv, Nat.reduceMod, Nat.reduceSub, Nat.reduceBEq, Nat.reduceLT, Nat.reduceLeDiff, reduceCtorEq, Int.reduceNeg, Int.reduceEq, String.reduceEq, Int.reduceLT, Int.reduceLE, Int.reduceToNat, Int.reduceAdd, Int.reduceMul, Int.reduceSub]
  (try simp (config := {maxSteps := 2000000}) only [gimp, impB, isT, go_sem, reduceIte, Nat.reduceEqDiff, Nat.reduceAdd, Nat.reduceMul, Nat.reduceDiv, Nat.reduceMod, Nat.reduceSub, Nat.reduceBEq, Nat.reduceLT, Nat.reduceLeDiff, reduceCtorEq, Int.reduceNeg, Int.reduceEq, String.reduceEq, Int.reduceLT, Int.reduceLE, Int.reduceToNat, Int.reduceAdd, Int.reduceMul, Int.reduceSub])
  have hil := inner_len s
  have hpl : (Lib.trimPrefix s [91]).length ≤ s.length := by
    unfold Lib.trimPrefix; split
    · rw [List.length_drop]; omega
    · omega
  refine ⟨by omega, ?_⟩
  rw [← lit_eq]
  rw [show Lib.trimSuffix (Lib.trimPrefix s [91]) [93] = inner s from rfl]
  generalize Lib.hasPrefix s [91] = ok0
  generalize hend : Lib.hasSuffix (Lib.trimPrefix s [91]) [93] = end0
  refine VL_inv (X := Nat × Bool) (fun x => ⟨[(3, .str (inner s)), (4, .bool x.2), (5, .bool end0), (19, .it 320)], [(320, .iter (inner s) x.1)]⟩) (fun x => x.1 ≤ (inner s).length ∧ (x.2 = true → ok0 = true ∧ ((inner s).take x.1).all litB = true) ∧ (x.2 = false → (ok0 && (inner s).all litB) = false)) (fun x => (inner s).length - x.1) (0, ok0) ?_ ?_ ?_
  · simp only [go_sem, go_sem, reduceIte, Nat.reduceEqDiff, Nat.reduceAdd, Nat.reduceMul, Nat.reduceDiv, Nat.reduceMod, Nat.reduceSub, Nat.reduceBEq, Nat.reduceLT, Nat.reduceLeDiff, reduceCtorEq, Int.reduceNeg, Int.reduceEq, String.reduceEq, Int.reduceLT, Int.reduceLE, Int.reduceToNat, Int.reduceAdd, Int.reduceMul, Int.reduceSub]
  · exact ⟨Nat.zero_le _, fun h => ⟨h, by simp⟩, fun h => by simp only at h; rw [h]; rfl⟩
  rintro ⟨x, ok⟩ ⟨hx, h1, h2⟩
  simp only at hx h1 h2
  generalize inner s = u at *
  simp (config := {maxSteps := 2000000}) only [T_specLiteral, Go.Proofs.Tryz.Host.tb_specHex, Go.Proofs.Tryz.Lib.tb_specCutPrefix, Go.Proofs.Tryz.Lib.tb_specCutSuffix, go_sem, reduceIte, Nat.reduceEqDiff, Nat.reduceAdd, Nat.reduceMul, Nat.reduceDiv, Nat.reduceMod, Nat.reduceSub, Nat.reduceBEq, Nat.reduceLT, Nat.reduceLeDiff, reduceCtorEq, Int.reduceNeg, Int.reduceEq, String.reduceEq, Int.reduceLT, Int.reduceLE, Int.reduceToNat, Int.reduceAdd, Int.reduceMul, Int.reduceSub]
  (try simp (config := {maxSteps := 2000000}) only [gimp, impB, isT, go_sem, reduceIte, Nat.reduceEqDiff, Nat.reduceAdd, Nat.reduceMul, Nat.reduceDiv, Nat.reduceMod, Nat.reduceSub, Nat.reduceBEq, Nat.reduceLT, Nat.reduceLeDiff, reduceCtorEq, Int.reduceNeg, Int.reduceEq, String.reduceEq, Int.reduceLT, Int.reduceLE, Int.reduceToNat, Int.reduceAdd, Int.reduceMul, Int.reduceSub])
  refine ⟨fun hlt => ⟨hlt, (x + (runeAt u x).2, ok && litI (runeAt u x).1), ⟨rfl, by rw [if_pos hlt]⟩, ⟨(rune_pos hlt).2.2, fun h => ?_, fun h => ?_⟩, by have := (rune_pos hlt).2; simp only; omega⟩, fun hge => ?_⟩
  · simp only [Bool.and_eq_true] at h
    obtain ⟨h3, h4⟩ := h1 h.1
    exact ⟨h3, (lit_rune.step hlt h4).1 h.2⟩
  · cases ok with
    | false => exact h2 rfl
    | true =>
      obtain ⟨h3, h4⟩ := h1 rfl
      rw [Bool.true_and] at h
      rw [(lit_rune.step hlt h4).2 h, Bool.and_false]
  · have : x = u.length := by omega
    subst this
    rw [List.take_length] at h1
    have : ok = (ok0 && u.all litB) := by
      cases ok with
      | false => exact (h2 rfl).symm
      | true => obtain ⟨h3, h4⟩ := h1 rfl; rw [h3, h4]; rfl
    rw [this]
def tb_specLiteral : List Blk → List AV → Option (List Blk × AV × Prop)
  | [], [.str s] => some ([], .bool (litS s), (s.length ≤ maxLen))
  | _, _ => none
theorem tb_specLiteral_ok : ∀ E args E' res p, tb_specLiteral E args = some (E', res, p) → p → SpecE Tryz.prog 120 E args E' res := by
  intro E args E' res p h hp
  unfold tb_specLiteral at h
  split at h
  · simp only [Option.some.injEq, Prod.mk.injEq] at h
    obtain ⟨rfl, rfl, rfl⟩ := h
    exact (specLiteral _ hp)
  · cases h
def T_specCut : Tbl := fun g E args => (addT (addT nilT 157 Go.Proofs.Tryz.Lib.tb_specLastIndexByte) 152 Go.Proofs.Tryz.Lib.tb_specIndexByte) g E args
theorem T_specCut_ok : TblOK Tryz.prog T_specCut := (addT_ok (addT_ok nilT_ok (by decide +kernel) Go.Proofs.Tryz.Lib.tb_specLastIndexByte_ok) (by decide +kernel) Go.Proofs.Tryz.Lib.tb_specIndexByte_ok)
set_option maxRecDepth 100000 in
set_option maxHeartbeats 4000000 in
theorem specCut (s : List UInt8) (hs : s.length ≤ 1000000) : SpecE Tryz.prog 118 [] [.str s] [] (.tuple [.str (cutName s), .str (cutPort s), .bool (cutHas s)]) := by
  refine specF0 (C := T_specCut) (wr := false) (D := fun _ => []) (U := fun _ => none) (res := [.str (cutName s), .str (cutPort s), .bool (cutHas s)]) Tryz.Ty.mixed T_specCut_ok Tryz.func118 (nA := 1) (by decide +kernel) rfl (fun _ => rfl) ?_
  simp only [Tryz.f118, bodyOf, rlOf]
  rw [W_V]
  simp (config := {maxSteps := 2000000}) only [T_specCut, Go.Proofs.Tryz.Lib.tb_specLastIndexByte, Go.Proofs.Tryz.Lib.tb_specIndexByte, go_sem, reduceIte, Nat.reduceEqDiff, Nat.reduceAdd, Nat.reduceMul, Nat.reduceDiv, Nat.reduceMod, Nat.reduceSub, Nat.reduceBEq, Nat.reduceLT, Nat.reduceLeDiff, reduceCtorEq, Int.reduceNeg, Int.reduceEq, String.reduceEq, Int.reduceLT, Int.reduceLE, Int.reduceToNat, Int.reduceAdd, Int.reduceMul, Int.reduceSub]
  (try simp (config := {maxSteps := 2000000}) only [gimp, impB, isT, go_sem, reduceIte, Nat.reduceEqDiff, Nat.reduceAdd, Nat.reduceMul, Nat.reduceDiv, Nat.reduceMod, Nat.reduceSub, Nat.reduceBEq, Nat.reduceLT, Nat.reduceLeDiff, reduceCtorEq, Int.reduceNeg, Int.reduceEq, String.reduceEq, Int.reduceLT, Int.reduceLE, Int.reduceToNat, Int.reduceAdd, Int.reduceMul, Int.reduceSub])
  have h1 := lastUp_lt 58 s
  have e1 : ((UInt8.ofNat 58).toNat : Int) = ((58 : UInt8).toNat : Int) := rfl
  rw [e1, last_up]
  have e2 : UInt8.ofNat 93 = (93 : UInt8) := rfl
  rw [e2]
  have hno : idxB 93 s ≤ lastUp 58 s → 0 ≤ lastUp 58 s → cutHas s = true := fun h h' => by simp [cutHas, h, h']
  have hyes : lastUp 58 s < idxB 93 s ∨ lastUp 58 s < 0 → cutHas s = false := fun h => by
    simp only [cutHas, decide_eq_false_iff_not]; omega
  refine ⟨⟨hs, rfl⟩, rfl, fun h => ?_, fun h h' => ⟨by omega, by omega, by omega, ?_, ?_, (hno h h').symm⟩⟩
  · have := cut_no (hyes h)
    exact ⟨this.1.symm, this.2.symm, (hyes h).symm⟩
  · simp only [cutName, hno h h', if_true]
  · simp only [cutPort, hno h h', if_true]
    congr 1; omega
def tb_specCut : List Blk → List AV → Option (List Blk × AV × Prop)
  | [], [.str s] => some ([], .tuple [.str (cutName s), .str (cutPort s), .bool (cutHas s)], (s.length ≤ 1000000))
  | _, _ => none
theorem tb_specCut_ok : ∀ E args E' res p, tb_specCut E args = some (E', res, p) → p → SpecE Tryz.prog 118 E args E' res := by
  intro E args E' res p h hp
  unfold tb_specCut at h
  split at h
  · simp only [Option.some.injEq, Prod.mk.injEq] at h
    obtain ⟨rfl, rfl, rfl⟩ := h
    exact (specCut _ hp)
  · cases h
def T_specParse : Tbl := fun g E args => (addT (addT (addT (addT nilT 119 Go.Proofs.Tryz.Host.tb_specRegistered) 120 Go.Proofs.Tryz.Host.tb_specLiteral) 118 Go.Proofs.Tryz.Host.tb_specCut) 121 Go.Proofs.Tryz.Dig.tb_specDec) g E args
theorem T_specParse_ok : TblOK Tryz.prog T_specParse := (addT_ok (addT_ok (addT_ok (addT_ok nilT_ok (by decide +kernel) Go.Proofs.Tryz.Host.tb_specRegistered_ok) (by decide +kernel) Go.Proofs.Tryz.Host.tb_specLiteral_ok) (by decide +kernel) Go.Proofs.Tryz.Host.tb_specCut_ok) (by decide +kernel) Go.Proofs.Tryz.Dig.tb_specDec_ok)
set_option maxRecDepth 100000 in
set_option maxHeartbeats 4000000 in
theorem specParse (s : List UInt8) (hs : s.length ≤ 1000000) : SpecE Tryz.prog 80 [] [.str s] [] (.tuple [.str (hostName s), .int .i64 (hostPort s), .int .i64 (hostErr s)]) := by
  refine specF0 (C := T_specParse) (wr := false) (D := fun _ => []) (U := fun _ => none) (res := [.str (hostName s), .int .i64 (hostPort s), .int .i64 (hostErr s)]) Tryz.Ty.mixed T_specParse_ok Tryz.func80 (nA := 1) (by decide +kernel) rfl (fun _ => rfl) ?_
  simp only [Tryz.f80, bodyOf, rlOf]
  rw [W_V]
  simp (config := {maxSteps := 2000000}) only [T_specParse, Go.Proofs.Tryz.Host.tb_specRegistered, Go.Proofs.Tryz.Host.tb_specLiteral, Go.Proofs.Tryz.Host.tb_specCut, Go.Proofs.Tryz.Dig.tb_specDec, go_sem, reduceIte, Nat.reduceEqDiff, Nat.reduceAdd, Nat.reduceMul, Nat.reduceDiv, Nat.reduceMod, Nat.reduceSub, Nat.reduceBEq, Nat.reduceLT, Nat.reduceLeDiff, reduceCtorEq, Int.reduceNeg, Int.reduceEq, String.reduceEq, Int.reduceLT, Int.reduceLE, Int.reduceToNat, Int.reduceAdd, Int.reduceMul, Int.reduceSub]
  (try simp (config := {maxSteps := 2000000}) only [gimp, impB, isT, go_sem, reduceIte, Nat.reduceEqDiff, Nat.reduceAdd, Nat.reduceMul, Nat.reduceDiv, Nat.reduceMod, Nat.reduceSub, Nat.reduceBEq, Nat.reduceLT, Nat.reduceLeDiff, reduceCtorEq, Int.reduceNeg, Int.reduceEq, String.reduceEq, Int.reduceLT, Int.reduceLE, Int.reduceToNat, Int.reduceAdd, Int.reduceMul, Int.reduceSub])
  have hcl : (cutName s).length ≤ s.length := by
    unfold cutName; split
    · rw [List.length_take]; omega
    · omega
  have hm : (1000000 : Nat) ≤ maxLen := by decide
  have bad : ∀ e : Int, e = hostErr s → e ≠ 0 → [] = hostName s ∧ 0 = hostPort s ∧ e = hostErr s := fun e h h' => by
    have := host_bad (s := s) (by rw [← h]; exact h')
    exact ⟨this.1.symm, this.2.symm, h⟩
  have good : 0 = hostErr s → cutName s = hostName s := fun h => (host_ok h.symm).1.symm
  refine ⟨fun h => bad 2 (by simp [hostErr, h]) (by decide), fun h0 => ⟨hs, fun _ => by omega, fun r1 r2 => bad 3 (by simp [hostErr, h0, nameS, r1, r2]) (by decide), fun hn => ?_⟩⟩
  have hn' : nameS (cutName s) = true := by
    simp only [nameS, Bool.or_eq_true]
    cases h1 : regS (cutName s) with
    | true => exact .inl rfl
    | false => rw [h1] at hn; right; simpa using hn
  refine ⟨fun hc => ?_, fun hc => ⟨fun he => ?_, fun he => ⟨fun h5 => ?_, fun h5 => ?_⟩⟩⟩
  · have e : hostErr s = 0 := by simp [hostErr, h0, hn', hc]
    exact ⟨good e.symm, by simp [hostPort, e, hc], e.symm⟩
  · have e : hostErr s = 0 := by simp [hostErr, h0, hn', hc, he]
    exact ⟨good e.symm, by simp [hostPort, e, hc], by rw [he, e]⟩
  · exact bad _ (by simp [hostErr, h0, hn', hc, h5]) he
  · exact bad 3 (by simp [hostErr, h0, hn', hc, he, h5]) (by decide)
def tb_specParse : List Blk → List AV → Option (List Blk × AV × Prop)
  | [], [.str s] => some ([], .tuple [.str (hostName s), .int .i64 (hostPort s), .int .i64 (hostErr s)], (s.length ≤ 1000000))
  | _, _ => none
theorem tb_specParse_ok : ∀ E args E' res p, tb_specParse E args = some (E', res, p) → p → SpecE Tryz.prog 80 E args E' res := by
  intro E args E' res p h hp
  unfold tb_specParse at h
  split at h
  · simp only [Option.some.injEq, Prod.mk.injEq] at h
    obtain ⟨rfl, rfl, rfl⟩ := h
    exact (specParse _ hp)
  · cases h
def T_specParseR : Tbl := fun g E args => (addT (addT nilT 108 Go.Proofs.Tryz.Host.tb_specNameR) 109 Go.Proofs.Tryz.Dig.tb_specNumberR) g E args
theorem T_specParseR_ok : TblOK Tryz.prog T_specParseR := (addT_ok (addT_ok nilT_ok (by decide +kernel) Go.Proofs.Tryz.Host.tb_specNameR_ok) (by decide +kernel) Go.Proofs.Tryz.Dig.tb_specNumberR_ok)
set_option maxRecDepth 100000 in
set_option maxHeartbeats 4000000 in
theorem specParseR (s : List UInt8) (hs : s.length ≤ 1000000) : SpecE Tryz.prog 69 [] [.str s] [] (.tuple [.str (hostName s), .int .i64 (hostPort s), .int .i64 (hostErr s)]) := by
  refine specF0 (C := T_specParseR) (wr := false) (D := fun _ => []) (U := fun _ => none) (res := [.str (hostName s), .int .i64 (hostPort s), .int .i64 (hostErr s)]) Tryz.Ty.mixed T_specParseR_ok Tryz.func69 (nA := 1) (by decide +kernel) rfl (fun _ => rfl) ?_
  simp only [Tryz.f69, bodyOf, rlOf]
  rw [W_V]
  simp (config := {maxSteps := 2000000}) only [T_specParseR, Go.Proofs.Tryz.Host.tb_specNameR, Go.Proofs.Tryz.Dig.tb_specNumberR, go_sem, reduceIte, Nat.reduceEqDiff, Nat.reduceAdd, Nat.reduceMul, Nat.reduceDiv, Nat.reduceMod, Nat.reduceSub, Nat.reduceBEq, Nat.reduceLT, Nat.reduceLeDiff, reduceCtorEq, Int.reduceNeg, Int.reduceEq, String.reduceEq, Int.reduceLT, Int.reduceLE, Int.reduceToNat, Int.reduceAdd, Int.reduceMul, Int.reduceSub]
  (try simp (config := {maxSteps := 2000000}) only [gimp, impB, isT, go_sem, reduceIte, Nat.reduceEqDiff, Nat.reduceAdd, Nat.reduceMul, Nat.reduceDiv, Nat.reduceMod, Nat.reduceSub, Nat.reduceBEq, Nat.reduceLT, Nat.reduceLeDiff, reduceCtorEq, Int.reduceNeg, Int.reduceEq, String.reduceEq, Int.reduceLT, Int.reduceLE, Int.reduceToNat, Int.reduceAdd, Int.reduceMul, Int.reduceSub])
  have bad : ∀ e : Int, e = hostErr s → e ≠ 0 → [] = hostName s ∧ 0 = hostPort s ∧ e = hostErr s := fun e h h' => by
    have := host_bad (s := s) (by rw [← h]; exact h')
    exact ⟨this.1.symm, this.2.symm, h⟩
  refine ⟨fun h => bad 2 (by simp [hostErr, h]) (by decide), fun h0 => ⟨hs, fun hz => bad 3 (host_none h0 (by omega)).symm (by decide), fun hz => ?_⟩⟩
  have hle := (name_take (s := s) (by omega)).1
  refine ⟨fun hw => ?_, fun hw => ⟨by omega, fun hc => bad 3 (host_sign (by omega) hc).symm (by decide), fun hc => ⟨by omega, by omega, by rw [List.length_drop]; omega, ?_⟩⟩⟩
  · obtain ⟨g1, g2, g3⟩ := host_whole h0 (by omega)
    exact ⟨by simp [hostName, g1, g3], by simp [hostPort, g1, g2], g1.symm⟩
  · rcases host_port (s := s) (by omega) (by omega) hc with ⟨g1, g2, g3, g4⟩ | ⟨g1, g2⟩
    · rw [← g4]
      refine ⟨fun h5 => bad _ (by simp [hostErr, h0, g2, g1, h5]) (by omega), fun h5 => ⟨fun he => bad 3 (by simp [hostErr, h0, g2, g1, he, h5]) (by decide), fun he => ⟨by omega, ?_⟩⟩⟩
      have e : hostErr s = 0 := by simp [hostErr, h0, g2, g1, he]
      exact ⟨by rw [← g3, (host_ok e).1], by simp [hostPort, e, g1], e.symm⟩
    · rw [g2]
      exact ⟨fun h => by omega, fun _ => ⟨fun _ => bad 3 g1.symm (by decide), fun h => by omega⟩⟩
def tb_specParseR : List Blk → List AV → Option (List Blk × AV × Prop)
  | [], [.str s] => some ([], .tuple [.str (hostName s), .int .i64 (hostPort s), .int .i64 (hostErr s)], (s.length ≤ 1000000))
  | _, _ => none
theorem tb_specParseR_ok : ∀ E args E' res p, tb_specParseR E args = some (E', res, p) → p → SpecE Tryz.prog 69 E args E' res := by
  intro E args E' res p h hp
  unfold tb_specParseR at h
  split at h
  · simp only [Option.some.injEq, Prod.mk.injEq] at h
    obtain ⟨rfl, rfl, rfl⟩ := h
    exact (specParseR _ hp)
  · cases h
end Go.Proofs.Tryz.Host
end
section
set_option linter.unusedVariables false
set_option linter.unusedSimpArgs false
namespace Go.Mdl
open Go Go.Abs
def wordL (t : List UInt8) : Nat := spanL (fun c => !blankB c) t
def viaVer (s : List UInt8) : List UInt8 := s.take (wordL s)
def viaR1 (s : List UInt8) : List UInt8 := s.drop (wordL s)
def viaR2 (s : List UInt8) : List UInt8 := (viaR1 s).drop (spanL blankB (viaR1 s))
def viaBy (s : List UInt8) : List UInt8 := (viaR2 s).take (wordL (viaR2 s))
def viaR3 (s : List UInt8) : List UInt8 := (viaR2 s).drop (wordL (viaR2 s))
def viaCom (s : List UInt8) : List UInt8 := (viaR3 s).drop (spanL blankB (viaR3 s))
def verB (s : List UInt8) : Bool := tokenS (s.take (upTo 47 s)) && (!decide (upTo 47 s < s.length) || tokenS (s.drop (upTo 47 s + 1)))
def byB (s : List UInt8) : Bool := tokenS s || decide (hostErr s = 0)
def comB (s : List UInt8) : Bool := decide (s.getD 0 0 = 40) && decide (closeAt scan0 s = some s.length)
def headB (s : List UInt8) : Bool := verB (viaVer s) && (decide (viaR1 s ≠ viaR2 s) && byB (viaBy s))
def viaErr (s : List UInt8) : Int :=
  if s = [] then 2 else if headB s = false then 3 else if viaR3 s = [] then 0 else if comB (viaCom s) = true then 0 else 3
abbrev Hop := List UInt8 × List UInt8 × List UInt8
def viaHop (s : List UInt8) : Hop := if viaErr s = 0 then (viaVer s, viaBy s, viaCom s) else ([], [], [])
def hopText (h : Hop) : List UInt8 := h.1 ++ 32 :: h.2.1 ++ if h.2.2 = [] then [] else 32 :: h.2.2
def enc_hop (h : Hop) : AV := .agg [.str h.1, .str h.2.1, .str h.2.2]
def dec_hop : AV → Hop
  | .agg [.str a, .str b, .str c] => (a, b, c)
  | _ => ([], [], [])
def enc_hops (l : List Hop) : AV := .list 3 (l.map enc_hop)
def dec_hops (a : AV) : List Hop := (listOf a).map dec_hop
theorem getD_map_hop (l : List Hop) (n : Nat) : (l.map enc_hop).getD n (.agg [.str [], .str [], .str []]) = enc_hop (l.getD n ([], [], [])) := by
  simp only [List.getD_eq_getElem?_getD, List.getElem?_map]; cases l[n]? <;> rfl
theorem map_hop (l : List Hop) : (l.map enc_hop).map dec_hop = l := by simp [List.map_map, Function.comp_def, enc_hop, dec_hop]
theorem pure_hop (p : Hop) : pureBL (enc_hop p).cells = true := rfl
theorem pids_hop (p : Hop) : pids (enc_hop p) = [] := rfl
theorem ren_hop (σ : Nat → Nat) (p : Hop) : ren σ (enc_hop p) = enc_hop p := rfl
theorem ref_hop (p : Hop) : refOf (enc_hop p) = none := rfl
theorem cells_hop (p : Hop) : (enc_hop p).cells = [.str p.1, .str p.2.1, .str p.2.2] := rfl
theorem pureEl_hop (l : List Hop) : pureEl (l.map enc_hop) = true := pureEl_map enc_hop l (fun _ => rfl)
theorem oneRef_hop (l : List Hop) : oneRef (l.map enc_hop) = none := oneRef_map (fun _ => rfl) l
theorem pidsL_hop (l : List Hop) : pidsL (l.map enc_hop) = [] := pidsL_map (fun _ => rfl) l
theorem renL_hop (σ : Nat → Nat) (l : List Hop) : (l.map enc_hop).map (ren σ) = l.map enc_hop := ren_map (fun _ => rfl) l
attribute [go_sem] enc_hop pureEl_hop oneRef_hop pidsL_hop renL_hop cells_hop getD_map_hop map_hop pure_hop pids_hop ren_hop ref_hop enc_hops dec_hops
theorem closeAt_iff {x : Scan} : ∀ {l : List UInt8} {n : Nat}, closeAt x l = some n ↔ (1 ≤ n ∧ n ≤ l.length ∧ (x.run (l.take n)).closed = true ∧ ∀ k, 1 ≤ k → k < n → (x.run (l.take k)).closed = false) := by
  intro l
  induction l generalizing x with
  | nil =>
    intro n
    simp only [closeAt]
    constructor
    · intro h; cases h
    · rintro ⟨h1, h2, _⟩; simp at h2; omega
  | cons c r ih =>
    intro n
    rw [closeAt_cons]
    by_cases h : (x.see c).closed = true
    · rw [if_pos h]
      constructor
      · intro e; cases e
        refine ⟨by omega, by simp, by simpa [Scan.run] using h, fun k h1 h2 => by omega⟩
      · rintro ⟨h1, h2, h3, h4⟩
        by_cases e : n = 1
        · rw [e]
        · have := h4 1 (by omega) (by omega)
          simp [Scan.run] at this
          rw [h] at this; cases this
    · rw [if_neg h]
      cases n with
      | zero =>
        constructor
        · intro e
          cases hc : closeAt (x.see c) r with
          | none => rw [hc] at e; cases e
          | some m => rw [hc] at e; simp at e
        · rintro ⟨h1, _⟩; omega
      | succ n =>
        constructor
        · intro e
          cases hc : closeAt (x.see c) r with
          | none => rw [hc] at e; cases e
          | some m =>
            rw [hc] at e
            simp only [Option.map_some, Option.some.injEq, Nat.add_right_cancel_iff] at e
            subst e
            obtain ⟨g1, g2, g3, g4⟩ := ih.1 hc
            refine ⟨by omega, by simpa using g2, by rw [List.take_succ_cons]; exact g3, fun k h1 h2 => ?_⟩
            obtain ⟨j, rfl⟩ : ∃ j, k = j + 1 := ⟨k - 1, by omega⟩
            rw [List.take_succ_cons]
            by_cases hj : j = 0
            · subst hj; simpa [Scan.run] using h
            · exact g4 j (by omega) (by omega)
        · rintro ⟨h1, h2, h3, h4⟩
          rw [List.take_succ_cons] at h3
          have hn : n ≠ 0 := by
            rintro rfl
            rw [List.take_zero] at h3
            exact h (by simpa [Scan.run] using h3)
          have : closeAt (x.see c) r = some n := ih.2 ⟨by omega, by simpa using h2, h3, fun k g1 g2 => by
            have := h4 (k + 1) (by omega) (by omega)
            rw [List.take_succ_cons] at this; exact this⟩
          rw [this]; rfl
theorem com_split {s : List UInt8} (h0 : s.getD 0 0 = 40) (h : closeAt scan0 s = some s.length) : endsS s = true ∧ splitS s = [s] := by
  obtain ⟨h1, h2, h3, h4⟩ := closeAt_iff.1 h
  rw [List.take_length] at h3
  have he : endsS s = true := h3
  refine ⟨he, ?_⟩
  rw [splitS, if_pos he]
  have e1 := elemsGo_close (x := scan0) (l := s) (n := s.length) [] (fun _ => by rw [h0]; decide) h
  rw [List.nil_append, List.take_length, List.drop_length] at e1
  have e2 : elemsS s = [s] := e1.1
  have hp : 0 < s.length := by omega
  have hl : trimL s = s := trimL_none (fun _ => by rw [h0]; decide)
  have hr : trimR s = s := by
    refine trimR_none (fun _ => ?_)
    rw [← Bool.not_eq_true]
    intro hb
    have e3 : s.take (s.length - 1 + 1) = s := by rw [List.take_of_length_le (by omega)]
    have e4 := Scan.run_take (s := s) (x := s.length - 1) (by omega) scan0
    rw [e3] at e4
    rw [e4] at h3
    have e5 := see_blank (Scan.fine_run (s.take (s.length - 1)) (x := scan0) (by intro g; cases g)) hb h3
    by_cases g : s.length = 1
    · have e6 : s.take (s.length - 1) = [] := by rw [g]; rfl
      rw [g] at hb
      rw [h0] at hb
      cases hb
    · have := h4 (s.length - 1) (by omega) (by omega)
      rw [e5] at this; cases this
  have ht : trimS s = s := by rw [trimS, hl, hr]
  rw [e2, keepE_one, ht, if_neg (List.ne_nil_of_length_pos hp)]
theorem com_iff (s : List UInt8) : comB s = true ↔ (endsS s = true ∧ splitS s = [s] ∧ s.getD 0 0 = 40 ∧ ∀ k, 1 ≤ k → k < s.length → endsS (s.take k) = false) := by
  simp only [comB, Bool.and_eq_true, decide_eq_true_eq]
  constructor
  · rintro ⟨h0, h⟩
    obtain ⟨a, b⟩ := com_split h0 h
    exact ⟨a, b, h0, (closeAt_iff.1 h).2.2.2⟩
  · rintro ⟨h1, h2, h3, h4⟩
    refine ⟨h3, closeAt_iff.2 ⟨?_, Nat.le_refl _, by rw [List.take_length]; exact h1, h4⟩⟩
    rcases s with _ | ⟨c, r⟩
    · simp at h3
    · simp
end Go.Mdl
end
section
set_option linter.unusedVariables false
set_option linter.unusedSimpArgs false
namespace Go.Mdl
open Go Go.Abs
def isN (names : List (List UInt8)) (f : Fld) : Bool := names.any fun n => foldS n f.1
def allS (l : List Fld) (name : List UInt8) : List (List UInt8) := (l.filter (isN [name])).map (·.2)
def combS (l : List Fld) (name : List UInt8) : List UInt8 := joinS (allS l name)
def withS (l : List Fld) (n v : List UInt8) : List Fld := l ++ [(n, v)]
def hasF (l : List Fld) (name : List UInt8) : Bool := l.any (isN [name])
theorem isN_one (n : List UInt8) (f : Fld) : isN [n] f = foldS n f.1 := by simp [isN]
theorem allS_take_succ {l : List Fld} {k : Nat} (n : List UInt8) (h : k < l.length) : allS (l.take (k + 1)) n = allS (l.take k) n ++ if isN [n] (l.getD k ([], [])) = true then [(l.getD k ([], [])).2] else [] := by
  rw [take_succ_getD ([], []) h]
  simp only [allS, List.filter_append, List.map_append]
  congr 1
  by_cases hh : isN [n] (l.getD k ([], [])) = true
  · rw [if_pos hh, List.filter_cons_of_pos hh]; rfl
  · rw [if_neg hh, List.filter_cons_of_neg hh]; rfl
theorem allS_len (l : List Fld) (n : List UInt8) : (allS l n).length ≤ l.length := by
  have := List.length_filter_le (isN [n]) l
  simpa [allS] using this
theorem allS_mem {l : List Fld} {n e : List UInt8} (h : e ∈ allS l n) : ∃ f ∈ l, e = f.2 ∧ isN [n] f = true := by
  simp only [allS, List.mem_map, List.mem_filter] at h
  obtain ⟨f, ⟨h1, h2⟩, rfl⟩ := h
  exact ⟨f, h1, rfl, h2⟩
theorem hasF_iff (l : List Fld) (n : List UInt8) : hasF l n = !decide (allS l n = []) := by
  cases h : hasF l n with
  | true =>
    obtain ⟨f, hf, h2⟩ := List.any_eq_true.1 h
    have : f.2 ∈ allS l n := by simp only [allS, List.mem_map, List.mem_filter]; exact ⟨f, ⟨hf, h2⟩, rfl⟩
    have hne : allS l n ≠ [] := fun e => by rw [e] at this; simp at this
    simp [hne]
  | false =>
    have : l.filter (isN [n]) = [] := by
      rw [List.filter_eq_nil_iff]
      intro f hf
      have := List.any_eq_false.1 h f hf
      exact this
    simp [allS, this]
end Go.Mdl
end
section
set_option linter.unusedVariables false
set_option linter.unusedSimpArgs false
namespace Go.Proofs.Tryz.Hdr
open Go Go.Abs Go.Proofs Go.Mdl
def T_specNamed : Tbl := fun g E args => nilT g E args
theorem T_specNamed_ok : TblOK Tryz.prog T_specNamed := nilT_ok
set_option maxRecDepth 100000 in
set_option maxHeartbeats 4000000 in
theorem specNamed (names : List (List UInt8)) : SpecE Tryz.prog 103 [] [enc_strs names] [.cells 1 false .nils [enc_strs names]] (.clo 148 0 [.ptr 0 0 0 1]) := by
  refine specFE (C := T_specNamed) (wr := false) (D := fun _ => []) (U := fun _ => none) (E := []) (E' := [.cells 1 false .nils [enc_strs names]]) (res := [.clo 148 0 [.ptr 0 0 0 1]]) [32] Tryz.Ty.mixed T_specNamed_ok Tryz.func103 (args := [enc_strs names]) (nE := 0) (nA := 1) (by decide +kernel) rfl rfl ?_
  simp only [Tryz.f103, bodyOf, rlOf]
  rw [W_V]
  simp (config := {maxSteps := 2000000}) only [T_specNamed, go_sem, seval]
  (try simp (config := {maxSteps := 2000000}) only [gimp, impB, isT, go_sem, seval])
def tb_specNamed : List Blk → List AV → Option (List Blk × AV × Prop)
  | [], [a0] => some ([.cells 1 false .nils [enc_strs (dec_strs a0)]], .clo 148 0 [.ptr 0 0 0 1], argOK a0 (enc_strs (dec_strs a0)))
  | _, _ => none
theorem tb_specNamed_ok : ∀ E args E' res p, tb_specNamed E args = some (E', res, p) → p → SpecE Tryz.prog 103 E args E' res := by
  intro E args E' res p h hp
  unfold tb_specNamed at h
  split at h
  · simp only [Option.some.injEq, Prod.mk.injEq] at h
    obtain ⟨rfl, rfl, rfl⟩ := h
    exact SpecE.args (specNamed _) (.cons hp .nil)
  · cases h
def T_specNamedN : Tbl := fun g E args => (addT nilT 35 Go.Proofs.Tryz.Oct.tb_specFold) g E args
theorem T_specNamedN_ok : TblOK Tryz.prog T_specNamedN := (addT_ok nilT_ok (by decide +kernel) Go.Proofs.Tryz.Oct.tb_specFold_ok)
set_option maxRecDepth 100000 in
set_option maxHeartbeats 4000000 in
theorem specNamedN (n a b : List UInt8) (hn : n.length ≤ maxLen) : SpecE Tryz.prog 149 [.cells 2 false (.agg [.str [], .str []]) [.agg [.str a, .str b]]] [.str n, .ptr 0 0 0 1] [.cells 2 false (.agg [.str [], .str []]) [.agg [.str a, .str b]]] (.bool (foldS n a)) := by
  refine specFE (C := T_specNamedN) (wr := false) (D := fun _ => []) (U := fun _ => none) (E := [.cells 2 false (.agg [.str [], .str []]) [.agg [.str a, .str b]]]) (E' := [.cells 2 false (.agg [.str [], .str []]) [.agg [.str a, .str b]]]) (res := [.bool (foldS n a)]) [] Tryz.Ty.mixed T_specNamedN_ok Tryz.func149 (args := [.str n, .ptr 0 0 0 1]) (nE := 1) (nA := 2) (by decide +kernel) rfl rfl ?_
  simp only [Tryz.f149, bodyOf, rlOf]
  rw [W_V]
  simp (config := {maxSteps := 2000000}) only [T_specNamedN, Go.Proofs.Tryz.Oct.tb_specFold, go_sem, seval]
  (try simp (config := {maxSteps := 2000000}) only [gimp, impB, isT, go_sem, seval])
  exact hn
set_option maxRecDepth 100000 in
set_option maxHeartbeats 4000000 in
theorem specNamedHas (names : List (List UInt8)) (a b : List UInt8) (hl : names.length ≤ maxLen) (hq : ∀ x ∈ names, x.length ≤ maxLen) : SpecE Tryz.prog 125 [.cells 2 false (.agg [.str [], .str []]) [.agg [.str a, .str b]]] [enc_strs names, .clo 149 0 [.ptr 0 0 0 1]] [.cells 2 false (.agg [.str [], .str []]) [.agg [.str a, .str b]]] (.bool (isN names (a, b))) := by
  exact Slc.has_S (by decide) (boxFld (a, b)) (fun _ => rfl) (q := fun x => x.length ≤ maxLen) (fun x hx => specNamedN x a b hx) names hq hl
def tb_specNamedHas : List Blk → List AV → Option (List Blk × AV × Prop)
  | [.cells 2 false d [.agg [.str a, .str b]]], [a0, .clo 149 0 [.ptr 0 0 0 1]] => some ([.cells 2 false (.agg [.str [], .str []]) [.agg [.str a, .str b]]], .bool (isN (dec_strs a0) (a, b)), (d = .agg [.str [], .str []]) ∧ ((dec_strs a0).length ≤ maxLen) ∧ (∀ x ∈ (dec_strs a0), x.length ≤ maxLen) ∧ argOK a0 (enc_strs (dec_strs a0)))
  | _, _ => none
theorem tb_specNamedHas_ok : ∀ E args E' res p, tb_specNamedHas E args = some (E', res, p) → p → SpecE Tryz.prog 125 E args E' res := by
  intro E args E' res p h hp
  unfold tb_specNamedHas at h
  split at h
  · simp only [Option.some.injEq, Prod.mk.injEq] at h
    obtain ⟨rfl, rfl, rfl⟩ := h
    obtain ⟨rfl, hp⟩ := hp
    exact SpecE.args (specNamedHas _ _ _ hp.1 hp.2.1) (.cons hp.2.2 (.cons (argOK.refl _) .nil))
  · cases h
def T_specNamedF : Tbl := fun g E args => (addT nilT 125 Go.Proofs.Tryz.Hdr.tb_specNamedHas) g E args
theorem T_specNamedF_ok : TblOK Tryz.prog T_specNamedF := (addT_ok nilT_ok (by decide +kernel) Go.Proofs.Tryz.Hdr.tb_specNamedHas_ok)
set_option maxRecDepth 100000 in
set_option maxHeartbeats 4000000 in
theorem specNamedF (names : List (List UInt8)) (a b : List UInt8) (hl : names.length ≤ maxLen) (hq : ∀ x ∈ names, x.length ≤ maxLen) : SpecE Tryz.prog 148 [.cells 1 false .nils [enc_strs names]] [.agg [.str a, .str b], .ptr 0 0 0 1] [.cells 1 false .nils [enc_strs names]] (.bool (isN names (a, b))) := by
  refine specFE (C := T_specNamedF) (wr := false) (D := fun _ => []) (U := fun _ => none) (E := [.cells 1 false .nils [enc_strs names]]) (E' := [.cells 1 false .nils [enc_strs names]]) (res := [.bool (isN names (a, b))]) [] Tryz.Ty.mixed T_specNamedF_ok Tryz.func148 (args := [.agg [.str a, .str b], .ptr 0 0 0 1]) (nE := 1) (nA := 2) (by decide +kernel) rfl rfl ?_
  simp only [Tryz.f148, bodyOf, rlOf]
  rw [W_V]
  simp (config := {maxSteps := 2000000}) only [T_specNamedF, Go.Proofs.Tryz.Hdr.tb_specNamedHas, go_sem, seval]
  (try simp (config := {maxSteps := 2000000}) only [gimp, impB, isT, go_sem, seval])
  exact ⟨hl, hq⟩
def tb_specNamedF : List Blk → List AV → Option (List Blk × AV × Prop)
  | [.cells 1 false d [b0_0]], [.agg [.str a, .str b], .ptr 0 0 0 1] => some ([.cells 1 false .nils [enc_strs (dec_strs b0_0)]], .bool (isN (dec_strs b0_0) (a, b)), (d = .nils) ∧ ((dec_strs b0_0).length ≤ maxLen) ∧ (∀ x ∈ (dec_strs b0_0), x.length ≤ maxLen) ∧ b0_0 = enc_strs (dec_strs b0_0))
  | _, _ => none
theorem tb_specNamedF_ok : ∀ E args E' res p, tb_specNamedF E args = some (E', res, p) → p → SpecE Tryz.prog 148 E args E' res := by
  intro E args E' res p h hp
  unfold tb_specNamedF at h
  split at h
  · rename_i d b0_0 a b
    simp only [Option.some.injEq, Prod.mk.injEq] at h
    obtain ⟨rfl, rfl, rfl⟩ := h
    obtain ⟨rfl, hh0, hh1, hb0⟩ := hp
    generalize dec_strs b0_0 = b0_0_x at *
    subst hb0
    exact (specNamedF _ _ _ hh0 hh1)
  · cases h
def T_specAll : Tbl := fun g E args => (addT (addT nilT 103 Go.Proofs.Tryz.Hdr.tb_specNamed) 148 Go.Proofs.Tryz.Hdr.tb_specNamedF) g E args
theorem T_specAll_ok : TblOK Tryz.prog T_specAll := (addT_ok (addT_ok nilT_ok (by decide +kernel) Go.Proofs.Tryz.Hdr.tb_specNamed_ok) (by decide +kernel) Go.Proofs.Tryz.Hdr.tb_specNamedF_ok)
set_option maxRecDepth 100000 in
set_option maxHeartbeats 4000000 in
theorem specAll (l : List Fld) (name : List UInt8) (hl : l.length ≤ 1000) (hn : name.length ≤ maxLen) : SpecE Tryz.prog 62 [] [enc_flds l, .str name] [] (enc_strs (allS l name)) := by
  refine specF0 (C := T_specAll) (wr := false) (D := fun _ => []) (U := fun _ => none) (res := [enc_strs (allS l name)]) Tryz.Ty.mixed T_specAll_ok Tryz.func62 (nA := 2) (by decide +kernel) rfl (fun _ => rfl) ?_
  simp only [Tryz.f62, bodyOf, rlOf]
  rw [W_V]
  simp (config := {maxSteps := 2000000}) only [T_specAll, Go.Proofs.Tryz.Hdr.tb_specNamed, Go.Proofs.Tryz.Hdr.tb_specNamedF, go_sem, seval]
  (try simp (config := {maxSteps := 2000000}) only [gimp, impB, isT, go_sem, seval])
  refine VL_inv (X := Nat) (fun k => ⟨[(5, .clo 148 0 [.ptr 192 0 0 1]), (6, .ref 416 0 (allS (l.take k) name).length (allS (l.take k) name).length), (12, enc_flds l), (13, .int .i64 l.length), (14, .int .i64 k)], [(192, .cells 1 false .nils [enc_strs [name]]), (416, .cells 1 false (.str []) ((allS (l.take k) name).map .str))]⟩) (fun k => k ≤ l.length) (fun k => l.length - k) 0 ?_ ?_ ?_
  · simp only [allS, List.take_zero, List.filter_nil, go_sem, go_sem, seval]
    try rfl
  · exact Nat.zero_le _
  rintro k hk
  simp (config := {maxSteps := 2000000}) only [T_specAll, Go.Proofs.Tryz.Hdr.tb_specNamed, Go.Proofs.Tryz.Hdr.tb_specNamedF, go_sem, seval]
  (try simp (config := {maxSteps := 2000000}) only [gimp, impB, isT, go_sem, seval])
  have hs := fun h : k < l.length => allS_take_succ (l := l) name h
  have hle := allS_len (l.take k) name
  have hlt' : (l.take k).length ≤ 1000 := by rw [List.length_take]; omega
  have hm : (1 : Nat) ≤ maxLen := by decide
  refine ⟨fun hlt => ⟨by omega, ⟨hm, hn⟩, fun hy => ⟨by omega, by omega, k + 1, ⟨⟨?_, by omega⟩, ?_⟩, by omega, by omega⟩, fun hno => ⟨by omega, k + 1, ⟨⟨?_, by omega⟩, ?_⟩, by omega, by omega⟩⟩, fun hge => ?_⟩
  · rw [hs (by omega), if_pos hy]; simp
  · rw [hs (by omega), if_pos hy]; simp
  · rw [hs (by omega), if_neg (by rw [show isN [name] (l.getD k ([], [])) = false from hno]; simp)]; simp
  · rw [hs (by omega), if_neg (by rw [show isN [name] (l.getD k ([], [])) = false from hno]; simp)]; simp
  · rw [List.take_length, List.take_of_length_le (by omega)]
def tb_specAll : List Blk → List AV → Option (List Blk × AV × Prop)
  | [], [a0, .str name] => some ([], enc_strs (allS (dec_flds a0) name), ((dec_flds a0).length ≤ 1000) ∧ (name.length ≤ maxLen) ∧ argOK a0 (enc_flds (dec_flds a0)))
  | _, _ => none
theorem tb_specAll_ok : ∀ E args E' res p, tb_specAll E args = some (E', res, p) → p → SpecE Tryz.prog 62 E args E' res := by
  intro E args E' res p h hp
  unfold tb_specAll at h
  split at h
  · simp only [Option.some.injEq, Prod.mk.injEq] at h
    obtain ⟨rfl, rfl, rfl⟩ := h
    exact SpecE.args (specAll _ _ hp.1 hp.2.1) (.cons hp.2.2 (.cons (argOK.refl _) .nil))
  · cases h
def T_specCombined : Tbl := fun g E args => (addT (addT nilT 62 Go.Proofs.Tryz.Hdr.tb_specAll) 63 Go.Proofs.Tryz.Lists.tb_specJoin) g E args
theorem T_specCombined_ok : TblOK Tryz.prog T_specCombined := (addT_ok (addT_ok nilT_ok (by decide +kernel) Go.Proofs.Tryz.Hdr.tb_specAll_ok) (by decide +kernel) Go.Proofs.Tryz.Lists.tb_specJoin_ok)
set_option maxRecDepth 100000 in
set_option maxHeartbeats 4000000 in
theorem specCombined (l : List Fld) (name : List UInt8) (hl : l.length ≤ 1000) (hn : name.length ≤ maxLen) (hq : ∀ f ∈ l, f.2.length ≤ 1000000) : SpecE Tryz.prog 30 [] [enc_flds l, .str name] [] (.tuple [.str (combS l name), .bool (hasF l name)]) := by
  refine specF0 (C := T_specCombined) (wr := false) (D := fun _ => []) (U := fun _ => none) (res := [.str (combS l name), .bool (hasF l name)]) Tryz.Ty.mixed T_specCombined_ok Tryz.func30 (nA := 2) (by decide +kernel) rfl (fun _ => rfl) ?_
  simp only [Tryz.f30, bodyOf, rlOf]
  rw [W_V]
  simp (config := {maxSteps := 2000000}) only [T_specCombined, Go.Proofs.Tryz.Hdr.tb_specAll, Go.Proofs.Tryz.Lists.tb_specJoin, go_sem, seval]
  (try simp (config := {maxSteps := 2000000}) only [gimp, impB, isT, go_sem, seval])
  have h1 := allS_len l name
  have hj := joinS_len (l := allS l name) (m := 1000000) (fun e he => by obtain ⟨f, hf, rfl, _⟩ := allS_mem he; exact hq f hf)
  have hj2 : (joinS (allS l name)).length ≤ 1000 * (1000000 + 2) := Nat.le_trans hj (Nat.mul_le_mul (by omega) (Nat.le_refl _))
  rw [join_eq]
  refine ⟨⟨hl, hn⟩, ⟨by omega, by omega⟩, rfl, ?_⟩
  rw [hasF_iff]
  by_cases h : allS l name = []
  · simp [h]
  · have := List.length_pos_iff.2 h
    simp [h]; omega
def tb_specCombined : List Blk → List AV → Option (List Blk × AV × Prop)
  | [], [a0, .str name] => some ([], .tuple [.str (combS (dec_flds a0) name), .bool (hasF (dec_flds a0) name)], ((dec_flds a0).length ≤ 1000) ∧ (name.length ≤ maxLen) ∧ (∀ f ∈ (dec_flds a0), f.2.length ≤ 1000000) ∧ argOK a0 (enc_flds (dec_flds a0)))
  | _, _ => none
theorem tb_specCombined_ok : ∀ E args E' res p, tb_specCombined E args = some (E', res, p) → p → SpecE Tryz.prog 30 E args E' res := by
  intro E args E' res p h hp
  unfold tb_specCombined at h
  split at h
  · simp only [Option.some.injEq, Prod.mk.injEq] at h
    obtain ⟨rfl, rfl, rfl⟩ := h
    exact SpecE.args (specCombined _ _ hp.1 hp.2.1 hp.2.2.1) (.cons hp.2.2.2 (.cons (argOK.refl _) .nil))
  · cases h
end Go.Proofs.Tryz.Hdr
end
section
set_option linter.unusedVariables false
set_option linter.unusedSimpArgs false
namespace Go.Proofs.Tryz.Hdr
open Go Go.Abs Go.Proofs Go.Mdl
def T_specWith : Tbl := fun g E args => nilT g E args
theorem T_specWith_ok : TblOK Tryz.prog T_specWith := nilT_ok
set_option maxRecDepth 100000 in
set_option maxHeartbeats 4000000 in
theorem specWith (l : List Fld) (n v : List UInt8) (hl : l.length ≤ 1000000) : SpecE Tryz.prog 36 [] [enc_flds l, .str n, .str v] [.cells 2 false (.agg [.str [], .str []]) ((withS l n v).map enc_fld)] (.ref 0 0 (withS l n v).length (withS l n v).length) := by
  refine specFE (C := T_specWith) (wr := false) (D := fun _ => []) (U := fun _ => none) (E := []) (E' := [.cells 2 false (.agg [.str [], .str []]) ((withS l n v).map enc_fld)]) (res := [.ref 0 0 (withS l n v).length (withS l n v).length]) [192] Tryz.Ty.mixed T_specWith_ok Tryz.func36 (args := [enc_flds l, .str n, .str v]) (nE := 0) (nA := 3) (by decide +kernel) rfl rfl ?_
  simp only [Tryz.f36, bodyOf, rlOf]
  rw [W_V]
  simp (config := {maxSteps := 2000000}) only [T_specWith, go_sem, seval]
  (try simp (config := {maxSteps := 2000000}) only [gimp, impB, isT, go_sem, seval])
  have hm : min l.length (l.length + 1) = l.length := by omega
  have hd : List.drop l.length (AV.agg [.str [], .str []] :: List.replicate l.length (AV.agg [.str [], .str []])) = [AV.agg [.str [], .str []]] := by
    rw [← List.replicate_succ, List.drop_replicate]
    simp
  simp only [hm, Nat.zero_add, List.take_length, hd]
  refine ⟨by omega, by omega, by simp, ⟨by simp, by omega, by omega⟩, ⟨by simp, by simp⟩, by simp [withS], ?_⟩
  simp [withS, enc_fld, List.set_append]
def tb_specWith : List Blk → List AV → Option (List Blk × AV × Prop)
  | [], [a0, .str n, .str v] => some ([.cells 2 false (.agg [.str [], .str []]) ((withS (dec_flds a0) n v).map enc_fld)], .ref 0 0 (withS (dec_flds a0) n v).length (withS (dec_flds a0) n v).length, ((dec_flds a0).length ≤ 1000000) ∧ argOK a0 (enc_flds (dec_flds a0)))
  | _, _ => none
theorem tb_specWith_ok : ∀ E args E' res p, tb_specWith E args = some (E', res, p) → p → SpecE Tryz.prog 36 E args E' res := by
  intro E args E' res p h hp
  unfold tb_specWith at h
  split at h
  · simp only [Option.some.injEq, Prod.mk.injEq] at h
    obtain ⟨rfl, rfl, rfl⟩ := h
    exact SpecE.args (specWith _ _ _ hp.1) (.cons hp.2 (.cons (argOK.refl _) (.cons (argOK.refl _) .nil)))
  · cases h
end Go.Proofs.Tryz.Hdr
end
section
set_option linter.unusedVariables false
set_option linter.unusedSimpArgs false
namespace Go.Proofs.Tryz.HdrR
open Go Go.Abs Go.Proofs Go.Mdl
def T_specIs : Tbl := fun g E args => (addT nilT 23 Go.Proofs.Tryz.Oct.tb_specLowerR) g E args
theorem T_specIs_ok : TblOK Tryz.prog T_specIs := (addT_ok nilT_ok (by decide +kernel) Go.Proofs.Tryz.Oct.tb_specLowerR_ok)
set_option maxRecDepth 100000 in
set_option maxHeartbeats 4000000 in
theorem specIs (a b : List UInt8) (ha : a.length ≤ 1000000) (hb : b.length ≤ 1000000) : SpecE Tryz.prog 87 [] [.str a, .str b] [] (.bool (decide (lowerS a = lowerS b))) := by
  refine specF0 (C := T_specIs) (wr := false) (D := fun _ => []) (U := fun _ => none) (res := [.bool (decide (lowerS a = lowerS b))]) Tryz.Ty.mixed T_specIs_ok Tryz.func87 (nA := 2) (by decide +kernel) rfl (fun _ => rfl) ?_
  simp only [Tryz.f87, bodyOf, rlOf]
  rw [W_V]
  simp (config := {maxSteps := 2000000}) only [T_specIs, Go.Proofs.Tryz.Oct.tb_specLowerR, go_sem, seval]
  (try simp (config := {maxSteps := 2000000}) only [gimp, impB, isT, go_sem, seval])
  exact ⟨ha, hb⟩
def tb_specIs : List Blk → List AV → Option (List Blk × AV × Prop)
  | [], [.str a, .str b] => some ([], .bool (decide (lowerS a = lowerS b)), (a.length ≤ 1000000) ∧ (b.length ≤ 1000000))
  | _, _ => none
theorem tb_specIs_ok : ∀ E args E' res p, tb_specIs E args = some (E', res, p) → p → SpecE Tryz.prog 87 E args E' res := by
  intro E args E' res p h hp
  unfold tb_specIs at h
  split at h
  · simp only [Option.some.injEq, Prod.mk.injEq] at h
    obtain ⟨rfl, rfl, rfl⟩ := h
    exact (specIs _ _ hp.1 hp.2)
  · cases h
def T_specWith : Tbl := fun g E args => nilT g E args
theorem T_specWith_ok : TblOK Tryz.prog T_specWith := nilT_ok
set_option maxRecDepth 100000 in
set_option maxHeartbeats 4000000 in
theorem specWith (l : List Fld) (n v : List UInt8) (hl : l.length ≤ 1000000) : SpecE Tryz.prog 37 [] [enc_flds l, .str n, .str v] [.cells 2 false (.agg [.str [], .str []]) ((withS l n v).map enc_fld)] (.ref 0 0 (withS l n v).length (withS l n v).length) := by
  refine specFE (C := T_specWith) (wr := false) (D := fun _ => []) (U := fun _ => none) (E := []) (E' := [.cells 2 false (.agg [.str [], .str []]) ((withS l n v).map enc_fld)]) (res := [.ref 0 0 (withS l n v).length (withS l n v).length]) [128] Tryz.Ty.mixed T_specWith_ok Tryz.func37 (args := [enc_flds l, .str n, .str v]) (nE := 0) (nA := 3) (by decide +kernel) rfl rfl ?_
  simp only [Tryz.f37, bodyOf, rlOf]
  rw [W_V]
  simp (config := {maxSteps := 2000000}) only [T_specWith, go_sem, seval, true_and]
  (try simp (config := {maxSteps := 2000000}) only [gimp, impB, isT, go_sem, seval])
  refine ⟨by omega, ⟨by omega, by omega, by omega⟩, by simp [withS], by simp [withS, enc_fld]⟩
def tb_specWith : List Blk → List AV → Option (List Blk × AV × Prop)
  | [], [a0, .str n, .str v] => some ([.cells 2 false (.agg [.str [], .str []]) ((withS (dec_flds a0) n v).map enc_fld)], .ref 0 0 (withS (dec_flds a0) n v).length (withS (dec_flds a0) n v).length, ((dec_flds a0).length ≤ 1000000) ∧ argOK a0 (enc_flds (dec_flds a0)))
  | _, _ => none
theorem tb_specWith_ok : ∀ E args E' res p, tb_specWith E args = some (E', res, p) → p → SpecE Tryz.prog 37 E args E' res := by
  intro E args E' res p h hp
  unfold tb_specWith at h
  split at h
  · simp only [Option.some.injEq, Prod.mk.injEq] at h
    obtain ⟨rfl, rfl, rfl⟩ := h
    exact SpecE.args (specWith _ _ _ hp.1) (.cons hp.2 (.cons (argOK.refl _) (.cons (argOK.refl _) .nil)))
  · cases h
end Go.Proofs.Tryz.HdrR
end
section
set_option linter.unusedVariables false
set_option linter.unusedSimpArgs false
namespace Go.Mdl
open Go Go.Abs
end Go.Mdl
namespace Go.Proofs.Tryz.HdrR
open Go Go.Abs Go.Proofs Go.Mdl
def T_specAll : Tbl := fun g E args => (addT nilT 87 Go.Proofs.Tryz.HdrR.tb_specIs) g E args
theorem T_specAll_ok : TblOK Tryz.prog T_specAll := (addT_ok nilT_ok (by decide +kernel) Go.Proofs.Tryz.HdrR.tb_specIs_ok)
set_option maxRecDepth 100000 in
set_option maxHeartbeats 4000000 in
theorem specAll (l : List Fld) (name : List UInt8) (hl : l.length ≤ 1000000) (hn : name.length ≤ 1000000) (hf : ∀ f ∈ l, f.1.length ≤ 1000000) : SpecE Tryz.prog 47 [] [enc_flds l, .str name] [] (enc_strs (allS l name)) := by
  refine specF0 (C := T_specAll) (wr := false) (D := fun _ => []) (U := fun _ => none) (res := [enc_strs (allS l name)]) Tryz.Ty.mixed T_specAll_ok Tryz.func47 (nA := 2) (by decide +kernel) rfl (fun _ => rfl) ?_
  simp only [Tryz.f47, bodyOf, rlOf]
  rw [W_V]
  simp (config := {maxSteps := 2000000}) only [T_specAll, Go.Proofs.Tryz.HdrR.tb_specIs, go_sem, seval, true_and]
  (try simp (config := {maxSteps := 2000000}) only [gimp, impB, isT, go_sem, seval])
  refine VL_inv (X := Nat) (fun k => ⟨[(0, enc_flds l), (1, .str name), (5, .ref 128 0 (allS (l.take k) name).length (allS (l.take k) name).length), (6, .int .i64 k)], [(128, .cells 1 false (.str []) ((allS (l.take k) name).map .str))]⟩) (fun k => k ≤ l.length) (fun k => l.length - k) 0 ?_ ?_ ?_
  · simp only [allS, List.take_zero, List.filter_nil, go_sem, go_sem, seval]
    try rfl
  · exact Nat.zero_le _
  rintro k hk
  simp (config := {maxSteps := 2000000}) only [T_specAll, Go.Proofs.Tryz.HdrR.tb_specIs, go_sem, seval, true_and]
  (try simp (config := {maxSteps := 2000000}) only [gimp, impB, isT, go_sem, seval])
  have hs := fun h : k < l.length => allS_take_succ (l := l) name h
  have hle := allS_len (l.take k) name
  have hlt' : (l.take k).length ≤ 1000000 := by rw [List.length_take]; omega
  have hi : isN [name] (l.getD k ([], [])) = true ↔ lowerS (l.getD k ([], [])).1 = lowerS name := by rw [isN_one]; simp [foldS, eq_comm]
  refine ⟨fun hlt => ⟨by omega, ⟨hf _ (List.mem_of_getElem? (getD_of_lt (s := l) (d := ([], [])) (by omega))), hn⟩, fun hy => ⟨by omega, by omega, by omega, k + 1, ⟨⟨?_, by omega⟩, ?_⟩, by omega, by omega⟩, fun hno => ⟨by omega, k + 1, ⟨⟨?_, by omega⟩, ?_⟩, by omega, by omega⟩⟩, fun hge => ?_⟩
  · rw [hs (by omega), if_pos (hi.2 hy)]; simp
  · rw [hs (by omega), if_pos (hi.2 hy)]; simp
  · rw [hs (by omega), if_neg (fun h => hno (hi.1 h))]; simp
  · rw [hs (by omega), if_neg (fun h => hno (hi.1 h))]; simp
  · rw [List.take_length, List.take_of_length_le (by omega)]
def tb_specAll : List Blk → List AV → Option (List Blk × AV × Prop)
  | [], [a0, .str name] => some ([], enc_strs (allS (dec_flds a0) name), ((dec_flds a0).length ≤ 1000000) ∧ (name.length ≤ 1000000) ∧ (∀ f ∈ (dec_flds a0), f.1.length ≤ 1000000) ∧ argOK a0 (enc_flds (dec_flds a0)))
  | _, _ => none
theorem tb_specAll_ok : ∀ E args E' res p, tb_specAll E args = some (E', res, p) → p → SpecE Tryz.prog 47 E args E' res := by
  intro E args E' res p h hp
  unfold tb_specAll at h
  split at h
  · simp only [Option.some.injEq, Prod.mk.injEq] at h
    obtain ⟨rfl, rfl, rfl⟩ := h
    exact SpecE.args (specAll _ _ hp.1 hp.2.1 hp.2.2.1) (.cons hp.2.2.2 (.cons (argOK.refl _) .nil))
  · cases h
def T_specCombined : Tbl := fun g E args => (addT (addT nilT 47 Go.Proofs.Tryz.HdrR.tb_specAll) 48 Go.Proofs.Tryz.Lists.tb_specJoinR) g E args
theorem T_specCombined_ok : TblOK Tryz.prog T_specCombined := (addT_ok (addT_ok nilT_ok (by decide +kernel) Go.Proofs.Tryz.HdrR.tb_specAll_ok) (by decide +kernel) Go.Proofs.Tryz.Lists.tb_specJoinR_ok)
set_option maxRecDepth 100000 in
set_option maxHeartbeats 4000000 in
theorem specCombined (l : List Fld) (name : List UInt8) (hl : l.length ≤ 1000) (hn : name.length ≤ 1000000) (hf : ∀ f ∈ l, f.1.length ≤ 1000000) (hv : ∀ f ∈ l, f.2.length ≤ 1000000) : SpecE Tryz.prog 20 [] [enc_flds l, .str name] [] (.tuple [.str (combS l name), .bool (!decide (allS l name = []))]) := by
  refine specF0 (C := T_specCombined) (wr := false) (D := fun _ => []) (U := fun _ => none) (res := [.str (combS l name), .bool (!decide (allS l name = []))]) Tryz.Ty.mixed T_specCombined_ok Tryz.func20 (nA := 2) (by decide +kernel) rfl (fun _ => rfl) ?_
  simp only [Tryz.f20, bodyOf, rlOf]
  rw [W_V]
  simp (config := {maxSteps := 2000000}) only [T_specCombined, Go.Proofs.Tryz.HdrR.tb_specAll, Go.Proofs.Tryz.Lists.tb_specJoinR, go_sem, seval]
  (try simp (config := {maxSteps := 2000000}) only [gimp, impB, isT, go_sem, seval])
  have := allS_len l name
  refine ⟨⟨by omega, hn, hf⟩, ⟨by omega, fun x hx => ?_⟩, rfl, ?_⟩
  · simp only [allS, List.mem_map, List.mem_filter] at hx
    obtain ⟨f, hx, rfl⟩ := hx
    exact hv f hx.1
  · cases allS l name <;> simp
def tb_specCombined : List Blk → List AV → Option (List Blk × AV × Prop)
  | [], [a0, .str name] => some ([], .tuple [.str (combS (dec_flds a0) name), .bool (!decide (allS (dec_flds a0) name = []))], ((dec_flds a0).length ≤ 1000) ∧ (name.length ≤ 1000000) ∧ (∀ f ∈ (dec_flds a0), f.1.length ≤ 1000000) ∧ (∀ f ∈ (dec_flds a0), f.2.length ≤ 1000000) ∧ argOK a0 (enc_flds (dec_flds a0)))
  | _, _ => none
theorem tb_specCombined_ok : ∀ E args E' res p, tb_specCombined E args = some (E', res, p) → p → SpecE Tryz.prog 20 E args E' res := by
  intro E args E' res p h hp
  unfold tb_specCombined at h
  split at h
  · simp only [Option.some.injEq, Prod.mk.injEq] at h
    obtain ⟨rfl, rfl, rfl⟩ := h
    exact SpecE.args (specCombined _ _ hp.1 hp.2.1 hp.2.2.1 hp.2.2.2.1) (.cons hp.2.2.2.2 (.cons (argOK.refl _) .nil))
  · cases h
end Go.Proofs.Tryz.HdrR
end
section
set_option linter.unusedVariables false
set_option linter.unusedSimpArgs false
namespace Go.Mdl
open Go Go.Abs
def encS (r : Int) : List UInt8 := (Utf8.encode r).data.toList
theorem enc_hi {r : Int} (hv : Utf8.valid r = true) (h : 128 ≤ r) : 2 ≤ (encS r).length ∧ (encS r).length ≤ 4 ∧ 128 ≤ ((encS r).getD ((encS r).length - 1) 0).toNat := by
  obtain ⟨h1, h2, h3⟩ := encode_facts r hv h
  have e : (encS r).length = (Utf8.encode r).size := rfl
  refine ⟨by omega, by omega, ?_⟩
  have h4 := h3 (by omega)
  have h5 : (encS r).getD ((encS r).length - 1) 0 = (Utf8.encode r)[(Utf8.encode r).size - 1]'(by omega) := by
    rw [List.getD_eq_getElem?_getD, List.getElem?_eq_getElem (by omega)]; rfl
  rw [h5]; exact h4
def blankI (r : Int) : Bool := decide (r = 32) || decide (r = 9)
theorem blank_rune : RuneB (fun r => !blankI r) (fun c => !blankB c) true := by
  refine ⟨fun c _ => ?_, fun r h => ?_, fun c h => ?_⟩
  · have : ∀ k : UInt8, (decide (((c.toNat : Nat) : Int) = k.toNat)) = decide (c = k) := fun k => by
      by_cases e : c = k
      · subst e; simp
      · rw [decide_eq_false e, decide_eq_false]
        intro h; exact e (UInt8.toNat.inj (by omega))
    have h1 := this 32
    have h2 := this 9
    simp only [blankI, blankB]
    rw [← h1, ← h2]; rfl
  · have h1 : ¬ r = 32 := by omega
    have h2 : ¬ r = 9 := by omega
    simp [blankI, h1, h2]
  · have h1 : ¬ c = 32 := by rintro rfl; simp at h
    have h2 : ¬ c = 9 := by rintro rfl; simp at h
    simp [blankB, h1, h2]
theorem take_all_succ {p : UInt8 → Bool} {s : List UInt8} {x : Nat} (hx : x < s.length) (h : (s.take x).all p = true) (hp : p (s.getD x 0) = true) : (s.take (x + 1)).all p = true := by
  rw [List.take_add_one, List.all_append, h, Bool.true_and]
  rw [List.getElem?_eq_getElem hx]
  rw [List.getD_eq_getElem?_getD, List.getElem?_eq_getElem hx] at hp
  simpa using hp
theorem hasPre_one (s : List UInt8) (c : UInt8) : Lib.hasPrefix s [c] = decide (s ≠ [] ∧ s.getD 0 0 = c) := by
  cases s with
  | nil => rfl
  | cons b r => simp [Lib.hasPrefix, List.isPrefixOf]; rw [Bool.eq_iff_iff]; simp; exact eq_comm
theorem span_take_all (p : UInt8 → Bool) (t : List UInt8) : (t.take (spanL p t)).all p = true := by
  have e : t.take (spanL p t) = t.takeWhile p := (List.prefix_iff_eq_take.1 (List.takeWhile_prefix p)).symm
  rw [e]; exact List.all_takeWhile
theorem by_suf (s : List UInt8) (h : viaR3 s = []) : (viaBy s).isSuffixOf s = true := by
  have e : viaBy s = viaR2 s := by
    have : (viaR2 s).length ≤ wordL (viaR2 s) := List.drop_eq_nil_iff.1 h
    rw [viaBy, List.take_of_length_le this]
  rw [e, List.isSuffixOf_iff_suffix]
  exact (List.drop_suffix _ _).trans (List.drop_suffix _ _)
theorem by_ne {s : List UInt8} (h : byB s = true) : s ≠ [] := by
  rintro rfl; revert h; decide
theorem by_notsuf (s : List UInt8) (h3 : viaR3 s ≠ []) (hc : viaCom s = []) (hb : byB (viaBy s) = true) : (viaBy s).isSuffixOf s = false := by
  rw [← Bool.not_eq_true, List.isSuffixOf_iff_suffix]
  rintro ⟨p, hp⟩
  have hs : viaR3 s <:+ s := ((List.drop_suffix _ _).trans (List.drop_suffix _ _)).trans (List.drop_suffix _ _)
  obtain ⟨q, hq⟩ := hs
  have hall : (viaR3 s).all blankB = true := by
    have h := span_take_all blankB (viaR3 s)
    rwa [List.take_of_length_le (List.drop_eq_nil_iff.1 hc)] at h
  have hno := span_take_all (fun c => !blankB c) (viaR2 s)
  have hno' : (viaBy s).all (fun c => !blankB c) = true := hno
  have hne := by_ne hb
  have h1 : (p ++ viaBy s).getLast? = (viaBy s).getLast? := by
    rw [List.getLast?_append, List.getLast?_eq_some_getLast hne]; rfl
  have h2 : (q ++ viaR3 s).getLast? = (viaR3 s).getLast? := by
    rw [List.getLast?_append, List.getLast?_eq_some_getLast h3]; rfl
  rw [hp] at h1
  rw [hq] at h2
  rw [h1, List.getLast?_eq_some_getLast hne, List.getLast?_eq_some_getLast h3, Option.some.injEq] at h2
  have k1 := List.all_eq_true.1 hno' _ (List.getLast_mem hne)
  have k2 := List.all_eq_true.1 hall _ (List.getLast_mem h3)
  rw [h2, k2] at k1
  cases k1
def idxV (s : List UInt8) : Int := if wordL s < s.length then (wordL s : Int) else -1
theorem idxV_at {s : List UInt8} {x : Nat} (hx : x < s.length) (h : (s.take x).all (fun c => !blankB c) = true) (hp : blankB (s.getD x 0) = true) : (x : Int) = idxV s := by
  have : wordL s = x := span_step hx h (by rw [hp]; rfl)
  rw [idxV, this, if_pos hx]
theorem idxV_none {s : List UInt8} (h : s.all (fun c => !blankB c) = true) : (-1 : Int) = idxV s := by
  have : wordL s = s.length := span_end h
  rw [idxV, this, if_neg (by omega)]
theorem rune_blank {s : List UInt8} {x : Nat} (hx : x < s.length) (h : blankI (runeAt s x).1 = true) : blankB (s.getD x 0) = true := by
  by_cases hl : (s.getD x 0).toNat < 128
  · rw [rune_low hl] at h
    have := blank_rune.low _ hl
    simp only [h, Bool.not_true] at this
    rw [← Bool.not_not (blankB (s.getD x 0)), ← this]; rfl
  · have := (rune_high hx (by omega)).1
    simp only [blankI, Bool.or_eq_true, decide_eq_true_eq] at h
    omega
end Go.Mdl
namespace Go.Proofs.Tryz.Via
open Go Go.Abs Go.Proofs Go.Mdl
def T_specUse : Tbl := fun g E args => nilT g E args
theorem T_specUse_ok : TblOK Tryz.prog T_specUse := nilT_ok
set_option maxRecDepth 100000 in
set_option maxHeartbeats 4000000 in
theorem specUse (n : Int) : SpecE Tryz.prog 111 [] [.int .i64 n] [] (.bool (decide (8 < n))) := by
  refine specF0 (C := T_specUse) (wr := false) (D := fun _ => []) (U := fun _ => none) (res := [.bool (decide (8 < n))]) Tryz.Ty.mixed T_specUse_ok Tryz.func111 (nA := 1) (by decide +kernel) rfl (fun _ => rfl) ?_
  simp only [Tryz.f111, bodyOf, rlOf]
  rw [W_V]
  simp (config := {maxSteps := 2000000}) only [T_specUse, go_sem, seval]
  (try simp (config := {maxSteps := 2000000}) only [gimp, impB, isT, go_sem, seval])
def tb_specUse : List Blk → List AV → Option (List Blk × AV × Prop)
  | [], [.int .i64 n] => some ([], .bool (decide (8 < n)), True)
  | _, _ => none
theorem tb_specUse_ok : ∀ E args E' res p, tb_specUse E args = some (E', res, p) → p → SpecE Tryz.prog 111 E args E' res := by
  intro E args E' res p h hp
  unfold tb_specUse at h
  split at h
  · simp only [Option.some.injEq, Prod.mk.injEq] at h
    obtain ⟨rfl, rfl, rfl⟩ := h
    exact (specUse _)
  · cases h
def T_specValidRune : Tbl := fun g E args => nilT g E args
theorem T_specValidRune_ok : TblOK Tryz.prog T_specValidRune := nilT_ok
set_option maxRecDepth 100000 in
set_option maxHeartbeats 4000000 in
theorem specValidRune (r : Int) : SpecE Tryz.prog 153 [] [.int .i32 r] [] (.bool (Utf8.valid r)) := by
  refine specF0 (C := T_specValidRune) (wr := false) (D := fun _ => []) (U := fun _ => none) (res := [.bool (Utf8.valid r)]) Tryz.Ty.mixed T_specValidRune_ok Tryz.func153 (nA := 1) (by decide +kernel) rfl (fun _ => rfl) ?_
  simp only [Tryz.f153, bodyOf, rlOf]
  rw [W_V]
  simp (config := {maxSteps := 2000000}) only [T_specValidRune, go_sem, seval]
  (try simp (config := {maxSteps := 2000000}) only [gimp, impB, isT, go_sem, seval])
  have hv : ∀ r : Int, Utf8.valid r = (decide (0 ≤ r ∧ r < 55296) || decide (57343 < r ∧ r ≤ 1114111)) := fun r => by
    unfold Utf8.valid
    rw [Bool.eq_iff_iff]
    simp only [Bool.or_eq_true, Bool.and_eq_true, decide_eq_true_eq]
    omega
  rw [hv]
  refine ⟨fun h1 h2 => by simp [h1, h2], fun h => ⟨fun h1 h2 => by simp [h1, h2], fun h' => ?_⟩⟩
  rw [Bool.and_eq_false_iff, decide_eq_false_iff_not, decide_eq_false_iff_not] at h h'
  symm
  rw [Bool.or_eq_false_iff, decide_eq_false_iff_not, decide_eq_false_iff_not]
  omega
def tb_specValidRune : List Blk → List AV → Option (List Blk × AV × Prop)
  | [], [.int .i32 r] => some ([], .bool (Utf8.valid r), True)
  | _, _ => none
theorem tb_specValidRune_ok : ∀ E args E' res p, tb_specValidRune E args = some (E', res, p) → p → SpecE Tryz.prog 153 E args E' res := by
  intro E args E' res p h hp
  unfold tb_specValidRune at h
  split at h
  · simp only [Option.some.injEq, Prod.mk.injEq] at h
    obtain ⟨rfl, rfl, rfl⟩ := h
    exact (specValidRune _)
  · cases h
def T_specIndexRune : Tbl := fun g E args => (addT (addT nilT 152 Go.Proofs.Tryz.Lib.tb_specIndexByte) 153 Go.Proofs.Tryz.Via.tb_specValidRune) g E args
theorem T_specIndexRune_ok : TblOK Tryz.prog T_specIndexRune := (addT_ok (addT_ok nilT_ok (by decide +kernel) Go.Proofs.Tryz.Lib.tb_specIndexByte_ok) (by decide +kernel) Go.Proofs.Tryz.Via.tb_specValidRune_ok)
set_option maxRecDepth 100000 in
set_option maxHeartbeats 4000000 in
theorem specIndexRune (r : Int) (hr : 0 ≤ r ∧ r ≤ 2147483647) : SpecE Tryz.prog 110 [] [.str [32, 9], .int .i32 r] [] (.int .i64 (if r = 32 then 0 else if r = 9 then 1 else -1)) := by
  refine specF0 (C := T_specIndexRune) (wr := false) (D := fun _ => []) (U := fun _ => none) (res := [.int .i64 (if r = 32 then 0 else if r = 9 then 1 else -1)]) Tryz.Ty.mixed T_specIndexRune_ok Tryz.func110 (nA := 2) (by decide +kernel) rfl (fun _ => rfl) ?_
  simp only [Tryz.f110, bodyOf, rlOf]
  rw [W_V]
  simp (config := {maxSteps := 2000000}) only [T_specIndexRune, Go.Proofs.Tryz.Lib.tb_specIndexByte, Go.Proofs.Tryz.Via.tb_specValidRune, go_sem, seval]
  (try simp (config := {maxSteps := 2000000}) only [gimp, impB, isT, go_sem, seval])
  have hlow : r < 128 → idxB (UInt8.ofNat r.toNat) [32, 9] = if r = 32 then 0 else if r = 9 then 1 else -1 := fun h => by
    have h8 : ∀ c : UInt8, idxB c [32, 9] = if (c.toNat : Int) = 32 then 0 else if (c.toNat : Int) = 9 then 1 else -1 := by
      intro c; revert c; exact u8_forall (by decide +kernel)
    rw [h8]
    have : ((UInt8.ofNat r.toNat).toNat : Int) = r := by simp; omega
    rw [this]
  have hno : 128 ≤ r → (if r = 32 then (0 : Int) else if r = 9 then 1 else -1) = -1 := fun h => by rw [if_neg (by omega), if_neg (by omega)]
  refine ⟨fun h1 h2 => ⟨by omega, ?_, hlow h2⟩, fun h => ?_⟩
  · congr 1
    simp; omega
  have h128 : 128 ≤ r := by
    rw [Bool.and_eq_false_iff, decide_eq_false_iff_not, decide_eq_false_iff_not] at h
    omega
  rw [hno h128]
  refine ⟨fun h1 => ?_, fun h1 => ?_⟩
  · subst h1
    refine VL_inv (X := Nat) (fun x => ⟨[(175, .it 2816)], [(2816, .iter [32, 9] x)]⟩) (fun x => x ≤ 2) (fun x => 2 - x) 0 ?_ ?_ ?_
    · simp only [T_specIndexRune, Go.Proofs.Tryz.Lib.tb_specIndexByte, Go.Proofs.Tryz.Via.tb_specValidRune, go_sem, seval]
      try rfl
    · exact Nat.zero_le _
    rintro x hx
    simp (config := {maxSteps := 2000000}) only [T_specIndexRune, Go.Proofs.Tryz.Lib.tb_specIndexByte, Go.Proofs.Tryz.Via.tb_specValidRune, go_sem, seval]
    (try simp (config := {maxSteps := 2000000}) only [gimp, impB, isT, go_sem, seval])
    intro hx2
    have hne : ¬ (runeAt [32, 9] x).1 = 65533 := by
      obtain rfl | rfl : x = 0 ∨ x = 1 := by omega
      · decide +kernel
      · decide +kernel
    have hst : (runeAt [32, 9] x).2 = 1 := by
      obtain rfl | rfl : x = 0 ∨ x = 1 := by omega
      · decide +kernel
      · decide +kernel
    refine ⟨hx2, hx2, fun h => hne h, fun _ => ⟨x + 1, by rw [if_pos hx2, hst], by omega, by omega⟩⟩
  · refine ⟨fun _ => rfl, fun hv => ?_⟩
    obtain ⟨g1, g2, g3⟩ := enc_hi hv h128
    simp only [encS] at g1 g2 g3
    refine ⟨by omega, ?_⟩
    refine VL_inv (X := Nat) (fun _ => ⟨[(0, .str [32, 9]), (7, .str (Utf8.encode r).data.toList), (8, .int .i64 (((Utf8.encode r).data.toList.length : Int) - 1)), (9, .int .i64 (((Utf8.encode r).data.toList.length : Int) - 1)), (10, .int .i64 0)], []⟩) (fun _ => True) (fun _ => 0) 0 ?_ ?_ ?_
    · simp only [T_specIndexRune, Go.Proofs.Tryz.Lib.tb_specIndexByte, Go.Proofs.Tryz.Via.tb_specValidRune, go_sem, seval]
      try rfl
    · trivial
    rintro x -
    simp (config := {maxSteps := 2000000}) only [T_specIndexRune, Go.Proofs.Tryz.Lib.tb_specIndexByte, Go.Proofs.Tryz.Via.tb_specValidRune, go_sem, seval]
    (try simp (config := {maxSteps := 2000000}) only [gimp, impB, isT, go_sem, seval])
    intro hl2
    have hlen : (Utf8.encode r).data.toList.length = 2 := by omega
    rw [hlen] at g3 ⊢
    refine ⟨by omega, by omega, fun _ => ⟨by omega, by omega, by omega, fun hc => absurd hc (by simp [idxB])⟩, fun he => ?_⟩
    exfalso
    rw [← he] at g3
    revert g3; decide
def tb_specIndexRune : List Blk → List AV → Option (List Blk × AV × Prop)
  | [], [.str [32, 9], .int .i32 r] => some ([], .int .i64 (if r = 32 then 0 else if r = 9 then 1 else -1), (0 ≤ r ∧ r ≤ 2147483647))
  | _, _ => none
theorem tb_specIndexRune_ok : ∀ E args E' res p, tb_specIndexRune E args = some (E', res, p) → p → SpecE Tryz.prog 110 E args E' res := by
  intro E args E' res p h hp
  unfold tb_specIndexRune at h
  split at h
  · simp only [Option.some.injEq, Prod.mk.injEq] at h
    obtain ⟨rfl, rfl, rfl⟩ := h
    exact (specIndexRune _ hp)
  · cases h
def T_specIndexAny : Tbl := fun g E args => (addT (addT (addT (addT nilT 111 Go.Proofs.Tryz.Via.tb_specUse) 112 Go.Proofs.Tryz.Trm.tb_specMake) 113 Go.Proofs.Tryz.Trm.tb_specHasC) 110 Go.Proofs.Tryz.Via.tb_specIndexRune) g E args
theorem T_specIndexAny_ok : TblOK Tryz.prog T_specIndexAny := (addT_ok (addT_ok (addT_ok (addT_ok nilT_ok (by decide +kernel) Go.Proofs.Tryz.Via.tb_specUse_ok) (by decide +kernel) Go.Proofs.Tryz.Trm.tb_specMake_ok) (by decide +kernel) Go.Proofs.Tryz.Trm.tb_specHasC_ok) (by decide +kernel) Go.Proofs.Tryz.Via.tb_specIndexRune_ok)
set_option maxRecDepth 100000 in
set_option maxHeartbeats 4000000 in
theorem specIndexAny (s : List UInt8) (hs : s.length ≤ 1000000) : SpecE Tryz.prog 73 [] [.str s, .str [32, 9]] [] (.int .i64 (idxV s)) := by
  refine specF0 (C := T_specIndexAny) (wr := false) (D := fun _ => []) (U := fun _ => none) (res := [.int .i64 (idxV s)]) Tryz.Ty.mixed T_specIndexAny_ok Tryz.func73 (nA := 2) (by decide +kernel) rfl (fun _ => rfl) ?_
  simp only [Tryz.f73, bodyOf, rlOf]
  rw [W_V]
  simp (config := {maxSteps := 2000000}) only [T_specIndexAny, Go.Proofs.Tryz.Via.tb_specUse, Go.Proofs.Tryz.Trm.tb_specMake, Go.Proofs.Tryz.Trm.tb_specHasC, Go.Proofs.Tryz.Via.tb_specIndexRune, go_sem, seval, ascP_asc]
  (try simp (config := {maxSteps := 2000000}) only [gimp, impB, isT, go_sem, seval])
  refine ⟨fun h => ?_, fun h => ?_⟩
  · (try refine ⟨by decide, ?_⟩)
    refine VL_inv (X := Nat) (fun x => ⟨[(0, .str s), (6, .ptr 112 0 0 256), (8, .int .i64 x)], [(112, .cells 1 false (.bool false) ((asc [32, 9]).map .bool))]⟩) (fun x => x ≤ s.length ∧ (s.take x).all (fun c => !blankB c) = true) (fun x => s.length - x) 0 ?_ ?_ ?_
    · simp only [T_specIndexAny, Go.Proofs.Tryz.Via.tb_specUse, Go.Proofs.Tryz.Trm.tb_specMake, Go.Proofs.Tryz.Trm.tb_specHasC, Go.Proofs.Tryz.Via.tb_specIndexRune, go_sem, seval, ascP_asc]
      try rfl
    · exact ⟨Nat.zero_le _, by simp⟩
    rintro x ⟨hx, hn⟩
    simp (config := {maxSteps := 2000000}) only [T_specIndexAny, Go.Proofs.Tryz.Via.tb_specUse, Go.Proofs.Tryz.Trm.tb_specMake, Go.Proofs.Tryz.Trm.tb_specHasC, Go.Proofs.Tryz.Via.tb_specIndexRune, go_sem, seval, ascP_asc]
    (try simp (config := {maxSteps := 2000000}) only [gimp, impB, isT, go_sem, seval])
    refine ⟨fun hlt => ⟨by omega, fun hb => idxV_at (by omega) hn (by simp only [blankB, Bool.or_eq_true, decide_eq_true_eq]; exact hb), fun hb => ⟨by omega, x + 1, by omega, ⟨by omega, take_all_succ (by omega) hn (by simp only [blankB, Bool.not_eq_true', Bool.or_eq_false_iff, decide_eq_false_iff_not]; exact not_or.1 hb)⟩, by omega⟩⟩, fun hge => ?_⟩
    exact idxV_none (by rw [← List.take_of_length_le (l := s) (i := x) (by omega)]; exact hn)
  · refine VL_inv (X := Nat) (fun x => ⟨[(1, .str [32, 9]), (45, .it 736)], [(736, .iter s x)]⟩) (fun x => x ≤ s.length ∧ (s.take x).all (fun c => !blankB c) = true) (fun x => s.length - x) 0 ?_ ?_ ?_
    · simp only [T_specIndexAny, Go.Proofs.Tryz.Via.tb_specUse, Go.Proofs.Tryz.Trm.tb_specMake, Go.Proofs.Tryz.Trm.tb_specHasC, Go.Proofs.Tryz.Via.tb_specIndexRune, go_sem, seval, ascP_asc]
      try rfl
    · exact ⟨Nat.zero_le _, by simp⟩
    rintro x ⟨hx, hn⟩
    simp (config := {maxSteps := 2000000}) only [T_specIndexAny, Go.Proofs.Tryz.Via.tb_specUse, Go.Proofs.Tryz.Trm.tb_specMake, Go.Proofs.Tryz.Trm.tb_specHasC, Go.Proofs.Tryz.Via.tb_specIndexRune, go_sem, seval, ascP_asc]
    (try simp (config := {maxSteps := 2000000}) only [gimp, impB, isT, go_sem, seval])
    refine ⟨fun hlt => ⟨hlt, hlt, ?_, fun hp => ?_, fun hp => ?_⟩, fun hge => ?_⟩
    · by_cases hl : (s.getD x 0).toNat < 128
      · rw [rune_low hl]; simp only; omega
      · have := rune_high hlt (by omega)
        exact ⟨by omega, this.2.1⟩
    · refine idxV_at hlt hn (rune_blank hlt ?_)
      by_cases h1 : (runeAt s x).1 = 32
      · simp [blankI, h1]
      · rw [if_neg h1] at hp
        by_cases h2 : (runeAt s x).1 = 9
        · simp [blankI, h2]
        · rw [if_neg h2] at hp; omega
    · have hb : blankI (runeAt s x).1 = false := by
        by_cases h1 : (runeAt s x).1 = 32
        · rw [if_pos h1] at hp; omega
        · rw [if_neg h1] at hp
          by_cases h2 : (runeAt s x).1 = 9
          · rw [if_pos h2] at hp; omega
          · simp [blankI, h1, h2]
      have h3 := (blank_rune.step hlt hn).1 (by rw [hb]; rfl)
      obtain ⟨-, h4, h5⟩ := rune_pos hlt
      exact ⟨x + (runeAt s x).2, by rw [if_pos hlt], ⟨h5, h3⟩, by omega⟩
    · exact idxV_none (by rw [← List.take_of_length_le (l := s) (i := x) (by omega)]; exact hn)
def tb_specIndexAny : List Blk → List AV → Option (List Blk × AV × Prop)
  | [], [.str s, .str [32, 9]] => some ([], .int .i64 (idxV s), (s.length ≤ 1000000))
  | _, _ => none
theorem tb_specIndexAny_ok : ∀ E args E' res p, tb_specIndexAny E args = some (E', res, p) → p → SpecE Tryz.prog 73 E args E' res := by
  intro E args E' res p h hp
  unfold tb_specIndexAny at h
  split at h
  · simp only [Option.some.injEq, Prod.mk.injEq] at h
    obtain ⟨rfl, rfl, rfl⟩ := h
    exact (specIndexAny _ hp)
  · cases h
def T_specDrop : Tbl := fun g E args => (addT (addT nilT 41 Go.Proofs.Tryz.Cur.tb_specLeft) 114 Go.Proofs.Tryz.Cur.tb_specByte) g E args
theorem T_specDrop_ok : TblOK Tryz.prog T_specDrop := (addT_ok (addT_ok nilT_ok (by decide +kernel) Go.Proofs.Tryz.Cur.tb_specLeft_ok) (by decide +kernel) Go.Proofs.Tryz.Cur.tb_specByte_ok)
set_option maxRecDepth 100000 in
set_option maxHeartbeats 4000000 in
theorem specDrop (s : List UInt8) (a n : Int) (h : 0 ≤ a ∧ 0 ≤ n ∧ a + n ≤ s.length ∧ s.length ≤ 1000000) : SpecE Tryz.prog 74 [.cells 2 false (.agg [.str [], .int .i64 0]) [.agg [.str s, .int .i64 a]]] [.ptr 0 0 0 1, .int .i64 n] [.cells 2 false (.agg [.str [], .int .i64 0]) [.agg [.str s, .int .i64 (a + n)]]] (.str ((s.drop a.toNat).take n.toNat)) := by
  refine specFE (C := T_specDrop) (wr := false) (D := fun _ => []) (U := fun _ => none) (E := [.cells 2 false (.agg [.str [], .int .i64 0]) [.agg [.str s, .int .i64 a]]]) (E' := [.cells 2 false (.agg [.str [], .int .i64 0]) [.agg [.str s, .int .i64 (a + n)]]]) (res := [.str ((s.drop a.toNat).take n.toNat)]) [] Tryz.Ty.mixed T_specDrop_ok Tryz.func74 (args := [.ptr 0 0 0 1, .int .i64 n]) (nE := 1) (nA := 2) (by decide +kernel) rfl rfl ?_
  simp only [Tryz.f74, bodyOf, rlOf]
  rw [W_V]
  simp (config := {maxSteps := 2000000}) only [T_specDrop, Go.Proofs.Tryz.Cur.tb_specLeft, Go.Proofs.Tryz.Cur.tb_specByte, go_sem, seval]
  (try simp (config := {maxSteps := 2000000}) only [gimp, impB, isT, go_sem, seval])
  obtain ⟨h1, h2, h3, h4⟩ := h
  have hl : (s.drop a.toNat).length = s.length - a.toNat := by simp
  refine ⟨by omega, ⟨by omega, by omega⟩, ?_⟩
  refine VL_inv (X := Nat) (fun x => ⟨[(0, .ptr 0 0 0 1), (5, .str ((s.drop a.toNat).take n.toNat)), (11, .int .i64 n), (12, .int .i64 x)], [(0, .cells 2 false (.agg [.str [], .int .i64 0]) [.agg [.str s, .int .i64 (a + x)]])]⟩) (fun x => x ≤ n.toNat) (fun x => n.toNat - x) 0 ?_ ?_ ?_
  · simp only [T_specDrop, Go.Proofs.Tryz.Cur.tb_specLeft, Go.Proofs.Tryz.Cur.tb_specByte, go_sem, seval]
    rw [Int.add_zero]
    exact ⟨rfl, rfl⟩
  · exact Nat.zero_le _
  rintro x hx
  simp (config := {maxSteps := 2000000}) only [T_specDrop, Go.Proofs.Tryz.Cur.tb_specLeft, Go.Proofs.Tryz.Cur.tb_specByte, go_sem, seval]
  (try simp (config := {maxSteps := 2000000}) only [gimp, impB, isT, go_sem, seval])
  have hlt : ((s.drop a.toNat).take n.toNat).length = n.toNat := by rw [List.length_take]; omega
  refine ⟨fun hxn => ⟨by omega, by omega, by omega, ?_⟩, fun hge => ?_⟩
  · have hx2 : (a + (x : Int)).toNat = a.toNat + x := by omega
    have hhd : (s.drop (a + (x : Int)).toNat).head? = some (((s.drop a.toNat).take n.toNat).getD x 0) := by
      rw [hx2, ← List.drop_drop, List.head?_drop, List.getD_eq_getElem?_getD, List.getElem?_take, if_pos (by omega), List.getElem?_eq_getElem (by omega)]
      rfl
    rw [if_pos hhd]
    have hx1 : a + (x : Int) + 1 = a + ((x + 1 : Nat) : Int) := by omega
    exact ⟨x + 1, ⟨by omega, by rw [hx1], by rw [hx1]⟩, by omega, by omega⟩
  · have : (x : Int) = n := by omega
    rw [this]
    exact ⟨rfl, rfl⟩
def tb_specDrop : List Blk → List AV → Option (List Blk × AV × Prop)
  | [.cells 2 false d [.agg [.str s, .int .i64 a]]], [.ptr 0 0 0 1, .int .i64 n] => some ([.cells 2 false (.agg [.str [], .int .i64 0]) [.agg [.str s, .int .i64 (a + n)]]], .str ((s.drop a.toNat).take n.toNat), (d = .agg [.str [], .int .i64 0]) ∧ (0 ≤ a ∧ 0 ≤ n ∧ a + n ≤ s.length ∧ s.length ≤ 1000000))
  | _, _ => none
theorem tb_specDrop_ok : ∀ E args E' res p, tb_specDrop E args = some (E', res, p) → p → SpecE Tryz.prog 74 E args E' res := by
  intro E args E' res p h hp
  unfold tb_specDrop at h
  split at h
  · simp only [Option.some.injEq, Prod.mk.injEq] at h
    obtain ⟨rfl, rfl, rfl⟩ := h
    obtain ⟨rfl, hp⟩ := hp
    exact (specDrop _ _ _ hp)
  · cases h
def T_specWord : Tbl := fun g E args => (addT (addT (addT nilT 41 Go.Proofs.Tryz.Cur.tb_specLeft) 73 Go.Proofs.Tryz.Via.tb_specIndexAny) 74 Go.Proofs.Tryz.Via.tb_specDrop) g E args
theorem T_specWord_ok : TblOK Tryz.prog T_specWord := (addT_ok (addT_ok (addT_ok nilT_ok (by decide +kernel) Go.Proofs.Tryz.Cur.tb_specLeft_ok) (by decide +kernel) Go.Proofs.Tryz.Via.tb_specIndexAny_ok) (by decide +kernel) Go.Proofs.Tryz.Via.tb_specDrop_ok)
set_option maxRecDepth 100000 in
set_option maxHeartbeats 4000000 in
theorem specWord (s : List UInt8) (a : Int) (h : 0 ≤ a ∧ a ≤ s.length ∧ s.length ≤ 1000000) : SpecE Tryz.prog 39 [.cells 2 false (.agg [.str [], .int .i64 0]) [.agg [.str s, .int .i64 a]]] [.ptr 0 0 0 1] [.cells 2 false (.agg [.str [], .int .i64 0]) [.agg [.str s, .int .i64 (a + wordL (s.drop a.toNat))]]] (.str ((s.drop a.toNat).take (wordL (s.drop a.toNat)))) := by
  refine specFE (C := T_specWord) (wr := false) (D := fun _ => []) (U := fun _ => none) (E := [.cells 2 false (.agg [.str [], .int .i64 0]) [.agg [.str s, .int .i64 a]]]) (E' := [.cells 2 false (.agg [.str [], .int .i64 0]) [.agg [.str s, .int .i64 (a + wordL (s.drop a.toNat))]]]) (res := [.str ((s.drop a.toNat).take (wordL (s.drop a.toNat)))]) [] Tryz.Ty.mixed T_specWord_ok Tryz.func39 (args := [.ptr 0 0 0 1]) (nE := 1) (nA := 1) (by decide +kernel) rfl rfl ?_
  simp only [Tryz.f39, bodyOf, rlOf]
  rw [W_V]
  simp (config := {maxSteps := 2000000}) only [T_specWord, Go.Proofs.Tryz.Cur.tb_specLeft, Go.Proofs.Tryz.Via.tb_specIndexAny, Go.Proofs.Tryz.Via.tb_specDrop, go_sem, seval]
  (try simp (config := {maxSteps := 2000000}) only [gimp, impB, isT, go_sem, seval])
  obtain ⟨h1, h2, h3⟩ := h
  have hl : (s.drop a.toNat).length = s.length - a.toNat := by simp
  have hk : wordL (s.drop a.toNat) ≤ (s.drop a.toNat).length := spanL_le _ _
  have hi : idxV (s.drop a.toNat) = if wordL (s.drop a.toNat) < (s.drop a.toNat).length then (wordL (s.drop a.toNat) : Int) else -1 := rfl
  generalize s.drop a.toNat = t at *
  generalize wordL t = k at *
  refine ⟨⟨h1, h2⟩, by omega, fun h => ?_, fun h => ?_⟩
  · have : k = t.length := by
      by_cases g : k < t.length
      · rw [if_pos g] at hi; omega
      · omega
    subst this
    exact ⟨by omega, rfl, rfl, rfl⟩
  · have hx : idxV t = (k : Int) := by
      by_cases g : k < t.length
      · rw [hi, if_pos g]
      · rw [if_neg g] at hi; omega
    rw [hx]
    exact ⟨by omega, by simp, rfl, rfl⟩
def tb_specWord : List Blk → List AV → Option (List Blk × AV × Prop)
  | [.cells 2 false d [.agg [.str s, .int .i64 a]]], [.ptr 0 0 0 1] => some ([.cells 2 false (.agg [.str [], .int .i64 0]) [.agg [.str s, .int .i64 (a + wordL (s.drop a.toNat))]]], .str ((s.drop a.toNat).take (wordL (s.drop a.toNat))), (d = .agg [.str [], .int .i64 0]) ∧ (0 ≤ a ∧ a ≤ s.length ∧ s.length ≤ 1000000))
  | _, _ => none
theorem tb_specWord_ok : ∀ E args E' res p, tb_specWord E args = some (E', res, p) → p → SpecE Tryz.prog 39 E args E' res := by
  intro E args E' res p h hp
  unfold tb_specWord at h
  split at h
  · simp only [Option.some.injEq, Prod.mk.injEq] at h
    obtain ⟨rfl, rfl, rfl⟩ := h
    obtain ⟨rfl, hp⟩ := hp
    exact (specWord _ _ hp)
  · cases h
def T_specVersion : Tbl := fun g E args => (addT (addT nilT 78 Go.Proofs.Tryz.Lib.tb_specCut) 79 Go.Proofs.Tryz.Oct.tb_specToken) g E args
theorem T_specVersion_ok : TblOK Tryz.prog T_specVersion := (addT_ok (addT_ok nilT_ok (by decide +kernel) Go.Proofs.Tryz.Lib.tb_specCut_ok) (by decide +kernel) Go.Proofs.Tryz.Oct.tb_specToken_ok)
set_option maxRecDepth 100000 in
set_option maxHeartbeats 4000000 in
theorem specVersion (s : List UInt8) (hs : s.length ≤ 1000000) : SpecE Tryz.prog 42 [] [.str s] [] (.bool (verB s)) := by
  refine specF0 (C := T_specVersion) (wr := false) (D := fun _ => []) (U := fun _ => none) (res := [.bool (verB s)]) Tryz.Ty.mixed T_specVersion_ok Tryz.func42 (nA := 1) (by decide +kernel) rfl (fun _ => rfl) ?_
  simp only [Tryz.f42, bodyOf, rlOf]
  rw [W_V]
  simp (config := {maxSteps := 2000000}) only [T_specVersion, Go.Proofs.Tryz.Lib.tb_specCut, Go.Proofs.Tryz.Oct.tb_specToken, go_sem, seval]
  (try simp (config := {maxSteps := 2000000}) only [gimp, impB, isT, go_sem, seval])
  have hm : (1000000 : Nat) ≤ maxLen := by decide
  exact ⟨by omega, rfl⟩
def tb_specVersion : List Blk → List AV → Option (List Blk × AV × Prop)
  | [], [.str s] => some ([], .bool (verB s), (s.length ≤ 1000000))
  | _, _ => none
theorem tb_specVersion_ok : ∀ E args E' res p, tb_specVersion E args = some (E', res, p) → p → SpecE Tryz.prog 42 E args E' res := by
  intro E args E' res p h hp
  unfold tb_specVersion at h
  split at h
  · simp only [Option.some.injEq, Prod.mk.injEq] at h
    obtain ⟨rfl, rfl, rfl⟩ := h
    exact (specVersion _ hp)
  · cases h
def T_specBy : Tbl := fun g E args => (addT (addT nilT 80 Go.Proofs.Tryz.Host.tb_specParse) 79 Go.Proofs.Tryz.Oct.tb_specToken) g E args
theorem T_specBy_ok : TblOK Tryz.prog T_specBy := (addT_ok (addT_ok nilT_ok (by decide +kernel) Go.Proofs.Tryz.Host.tb_specParse_ok) (by decide +kernel) Go.Proofs.Tryz.Oct.tb_specToken_ok)
set_option maxRecDepth 100000 in
set_option maxHeartbeats 4000000 in
theorem specBy (s : List UInt8) (hs : s.length ≤ 1000000) : SpecE Tryz.prog 43 [] [.str s] [] (.bool (byB s)) := by
  refine specF0 (C := T_specBy) (wr := false) (D := fun _ => []) (U := fun _ => none) (res := [.bool (byB s)]) Tryz.Ty.mixed T_specBy_ok Tryz.func43 (nA := 1) (by decide +kernel) rfl (fun _ => rfl) ?_
  simp only [Tryz.f43, bodyOf, rlOf]
  rw [W_V]
  simp (config := {maxSteps := 2000000}) only [T_specBy, Go.Proofs.Tryz.Host.tb_specParse, Go.Proofs.Tryz.Oct.tb_specToken, go_sem, seval]
  (try simp (config := {maxSteps := 2000000}) only [gimp, impB, isT, go_sem, seval])
  exact ⟨hs, rfl⟩
def tb_specBy : List Blk → List AV → Option (List Blk × AV × Prop)
  | [], [.str s] => some ([], .bool (byB s), (s.length ≤ 1000000))
  | _, _ => none
theorem tb_specBy_ok : ∀ E args E' res p, tb_specBy E args = some (E', res, p) → p → SpecE Tryz.prog 43 E args E' res := by
  intro E args E' res p h hp
  unfold tb_specBy at h
  split at h
  · simp only [Option.some.injEq, Prod.mk.injEq] at h
    obtain ⟨rfl, rfl, rfl⟩ := h
    exact (specBy _ hp)
  · cases h
def T_specInner : Tbl := fun g E args => (addT nilT 31 Go.Proofs.Tryz.Lists.tb_specSplit) g E args
theorem T_specInner_ok : TblOK Tryz.prog T_specInner := (addT_ok nilT_ok (by decide +kernel) Go.Proofs.Tryz.Lists.tb_specSplit_ok)
set_option maxRecDepth 100000 in
set_option maxHeartbeats 4000000 in
theorem specInner (s : List UInt8) (n : Int) (h : 0 ≤ n ∧ n ≤ s.length ∧ s.length ≤ 1000000) : SpecE Tryz.prog 82 [.cells 1 false (.str []) [.str s]] [.int .i64 n, .ptr 0 0 0 1] [.cells 1 false (.str []) [.str s]] (.bool (endsS (s.take n.toNat))) := by
  refine specFE (C := T_specInner) (wr := false) (D := fun _ => []) (U := fun _ => none) (E := [.cells 1 false (.str []) [.str s]]) (E' := [.cells 1 false (.str []) [.str s]]) (res := [.bool (endsS (s.take n.toNat))]) [] Tryz.Ty.mixed T_specInner_ok Tryz.func82 (args := [.int .i64 n, .ptr 0 0 0 1]) (nE := 1) (nA := 2) (by decide +kernel) rfl rfl ?_
  simp only [Tryz.f82, bodyOf, rlOf]
  rw [W_V]
  simp (config := {maxSteps := 2000000}) only [T_specInner, Go.Proofs.Tryz.Lists.tb_specSplit, go_sem, seval]
  (try simp (config := {maxSteps := 2000000}) only [gimp, impB, isT, go_sem, seval])
  refine ⟨⟨h.1, h.2.1⟩, ?_⟩
  rw [List.length_take]; omega
def tb_specInner : List Blk → List AV → Option (List Blk × AV × Prop)
  | [.cells 1 false d [.str s]], [.int .i64 n, .ptr 0 0 0 1] => some ([.cells 1 false (.str []) [.str s]], .bool (endsS (s.take n.toNat)), (d = .str []) ∧ (0 ≤ n ∧ n ≤ s.length ∧ s.length ≤ 1000000))
  | _, _ => none
theorem tb_specInner_ok : ∀ E args E' res p, tb_specInner E args = some (E', res, p) → p → SpecE Tryz.prog 82 E args E' res := by
  intro E args E' res p h hp
  unfold tb_specInner at h
  split at h
  · simp only [Option.some.injEq, Prod.mk.injEq] at h
    obtain ⟨rfl, rfl, rfl⟩ := h
    obtain ⟨rfl, hp⟩ := hp
    exact (specInner _ _ hp)
  · cases h
def T_specComment : Tbl := fun g E args => (addT (addT (addT nilT 31 Go.Proofs.Tryz.Lists.tb_specSplit) 82 Go.Proofs.Tryz.Via.tb_specInner) 81 Go.Proofs.Tryz.Lib.tb_specHasPrefix) g E args
theorem T_specComment_ok : TblOK Tryz.prog T_specComment := (addT_ok (addT_ok (addT_ok nilT_ok (by decide +kernel) Go.Proofs.Tryz.Lists.tb_specSplit_ok) (by decide +kernel) Go.Proofs.Tryz.Via.tb_specInner_ok) (by decide +kernel) Go.Proofs.Tryz.Lib.tb_specHasPrefix_ok)
set_option maxRecDepth 100000 in
set_option maxHeartbeats 4000000 in
theorem specComment (s : List UInt8) (hs : s.length ≤ 1000000) : SpecE Tryz.prog 44 [] [.str s] [] (.bool (comB s)) := by
  refine specF0 (C := T_specComment) (wr := false) (D := fun i => if i = 2 then [13] else []) (U := fun _ => none) (res := [.bool (comB s)]) Tryz.Ty.mixed T_specComment_ok Tryz.func44 (nA := 1) (by decide +kernel) rfl (fun _ => rfl) ?_
  simp only [Tryz.f44, bodyOf, rlOf]
  rw [W_V]
  simp (config := {maxSteps := 2000000}) only [T_specComment, Go.Proofs.Tryz.Lists.tb_specSplit, Go.Proofs.Tryz.Via.tb_specInner, Go.Proofs.Tryz.Lib.tb_specHasPrefix, go_sem, seval]
  (try simp (config := {maxSteps := 2000000}) only [gimp, impB, isT, go_sem, seval])
  refine ⟨by omega, fun _ h => by omega, fun h => ?_, fun h1 h2 h3 h4 => ?_⟩
  · rw [Bool.false_eq, ← Bool.not_eq_true, com_iff]
    rintro ⟨g1, g2, g3, -⟩
    rw [g1, g2] at h
    rcases h with ((h | h) | h) | h
    · cases h
    · exact h rfl
    · exact h rfl
    · rw [hasPre_one, decide_eq_false_iff_not] at h
      exact h ⟨by rintro rfl; simp at g3, g3⟩
  have hsp : splitS s = [s] := by
    obtain ⟨e, he⟩ := List.length_eq_one_iff.1 (show (splitS s).length = 1 by omega)
    rw [he] at h3 ⊢
    rw [show e = s from h3]
  rw [hasPre_one, decide_eq_true_eq] at h4
  have hpos := List.length_pos_iff.2 h4.1
  refine VL_inv (X := Nat) (fun x => ⟨[(1, .ptr 32 0 0 1), (5, .clo 82 0 [.ptr 32 0 0 1]), (6, .int .i64 x)], [(32, .cells 1 false (.str []) [.str s])]⟩) (fun x => 1 ≤ x ∧ x ≤ s.length ∧ ∀ k, 1 ≤ k → k < x → endsS (s.take k) = false) (fun x => s.length - x) 1 ?_ ?_ ?_
  · simp only [T_specComment, Go.Proofs.Tryz.Lists.tb_specSplit, Go.Proofs.Tryz.Via.tb_specInner, Go.Proofs.Tryz.Lib.tb_specHasPrefix, go_sem, seval]
    try rfl
  · exact ⟨by omega, by omega, fun k g1 g2 => by omega⟩
  rintro x ⟨hx1, hx2, hx3⟩
  simp (config := {maxSteps := 2000000}) only [T_specComment, Go.Proofs.Tryz.Lists.tb_specSplit, Go.Proofs.Tryz.Via.tb_specInner, Go.Proofs.Tryz.Lib.tb_specHasPrefix, go_sem, seval]
  (try simp (config := {maxSteps := 2000000}) only [gimp, impB, isT, go_sem, seval])
  refine ⟨fun hlt => ⟨by omega, fun he => ?_, fun he => ⟨by omega, x + 1, by omega, ⟨by omega, by omega, fun k g1 g2 => ?_⟩, by omega⟩⟩, fun hge => ?_⟩
  · rw [Bool.false_eq, ← Bool.not_eq_true, com_iff]
    rintro ⟨-, -, -, g⟩
    rw [g x hx1 (by omega)] at he; cases he
  · rcases Nat.lt_or_ge k x with g | g
    · exact hx3 k g1 g
    · have : k = x := by omega
      rw [this]; exact he
  · rw [eq_comm, com_iff]
    exact ⟨h1, hsp, h4.2, fun k g1 g2 => hx3 k g1 (by omega)⟩
def tb_specComment : List Blk → List AV → Option (List Blk × AV × Prop)
  | [], [.str s] => some ([], .bool (comB s), (s.length ≤ 1000000))
  | _, _ => none
theorem tb_specComment_ok : ∀ E args E' res p, tb_specComment E args = some (E', res, p) → p → SpecE Tryz.prog 44 E args E' res := by
  intro E args E' res p h hp
  unfold tb_specComment at h
  split at h
  · simp only [Option.some.injEq, Prod.mk.injEq] at h
    obtain ⟨rfl, rfl, rfl⟩ := h
    exact (specComment _ hp)
  · cases h
set_option maxRecDepth 100000 in
set_option maxHeartbeats 4000000 in
theorem specHasSuffix (s p : List UInt8) (hs : s.length ≤ maxLen) : SpecE Tryz.prog 45 [] [.str s, .str p] [] (.bool (p.isSuffixOf s)) := by
  refine SpecE.ofCalls (by decide +kernel) (fun w ok vs hok hl hr => ?_)
  obtain ⟨v0, v1, rfl⟩ := list2 hl
  have e0 := (hr 0 _ _ rfl rfl).strInv
  have e1 := (hr 1 _ _ rfl rfl).strInv
  subst e0 e1
  refine (Tryz.strings_HasSuffix ⟨s.toArray⟩ ⟨p.toArray⟩ w (by rw [ba_size]; exact hs)).mono ?_
  rintro e w' ⟨rfl, rfl⟩
  refine ⟨_, rfl, RowKit.Below.refl _ _, fun ok' => ?_⟩
  have e : Lib.hasSuffix (ByteArray.mk s.toArray).data.toList (ByteArray.mk p.toArray).data.toList = p.isSuffixOf s := by simp [Lib.hasSuffix]
  rw [e]
  exact .bool _
def tb_specHasSuffix : List Blk → List AV → Option (List Blk × AV × Prop)
  | [], [.str s, .str p] => some ([], .bool (p.isSuffixOf s), (s.length ≤ maxLen))
  | _, _ => none
theorem tb_specHasSuffix_ok : ∀ E args E' res p, tb_specHasSuffix E args = some (E', res, p) → p → SpecE Tryz.prog 45 E args E' res := by
  intro E args E' res p h hp
  unfold tb_specHasSuffix at h
  split at h
  · simp only [Option.some.injEq, Prod.mk.injEq] at h
    obtain ⟨rfl, rfl, rfl⟩ := h
    exact (specHasSuffix _ _ hp)
  · cases h
def T_specParse : Tbl := fun g E args => (addT (addT (addT (addT (addT (addT (addT (addT nilT 38 Go.Proofs.Tryz.Cur.tb_specNew) 39 Go.Proofs.Tryz.Via.tb_specWord) 40 Go.Proofs.Tryz.Cur.tb_specSkip) 41 Go.Proofs.Tryz.Cur.tb_specLeft) 42 Go.Proofs.Tryz.Via.tb_specVersion) 43 Go.Proofs.Tryz.Via.tb_specBy) 44 Go.Proofs.Tryz.Via.tb_specComment) 45 Go.Proofs.Tryz.Via.tb_specHasSuffix) g E args
theorem T_specParse_ok : TblOK Tryz.prog T_specParse := (addT_ok (addT_ok (addT_ok (addT_ok (addT_ok (addT_ok (addT_ok (addT_ok nilT_ok (by decide +kernel) Go.Proofs.Tryz.Cur.tb_specNew_ok) (by decide +kernel) Go.Proofs.Tryz.Via.tb_specWord_ok) (by decide +kernel) Go.Proofs.Tryz.Cur.tb_specSkip_ok) (by decide +kernel) Go.Proofs.Tryz.Cur.tb_specLeft_ok) (by decide +kernel) Go.Proofs.Tryz.Via.tb_specVersion_ok) (by decide +kernel) Go.Proofs.Tryz.Via.tb_specBy_ok) (by decide +kernel) Go.Proofs.Tryz.Via.tb_specComment_ok) (by decide +kernel) Go.Proofs.Tryz.Via.tb_specHasSuffix_ok)
set_option maxRecDepth 100000 in
set_option maxHeartbeats 4000000 in
theorem specParse (s : List UInt8) (hs : s.length ≤ 1000000) : SpecE Tryz.prog 18 [] [.str s] [] (.tuple [enc_hop (viaHop s), .int .i64 (viaErr s)]) := by
  refine specF0 (C := T_specParse) (wr := false) (D := fun _ => []) (U := fun _ => none) (res := [enc_hop (viaHop s), .int .i64 (viaErr s)]) Tryz.Ty.mixed T_specParse_ok Tryz.func18 (nA := 1) (by decide +kernel) rfl (fun _ => rfl) ?_
  simp only [Tryz.f18, bodyOf, rlOf]
  rw [W_V]
  simp (config := {maxSteps := 2000000}) only [T_specParse, Go.Proofs.Tryz.Cur.tb_specNew, Go.Proofs.Tryz.Via.tb_specWord, Go.Proofs.Tryz.Cur.tb_specSkip, Go.Proofs.Tryz.Cur.tb_specLeft, Go.Proofs.Tryz.Via.tb_specVersion, Go.Proofs.Tryz.Via.tb_specBy, Go.Proofs.Tryz.Via.tb_specComment, Go.Proofs.Tryz.Via.tb_specHasSuffix, go_sem, seval]
  (try simp (config := {maxSteps := 2000000}) only [gimp, impB, isT, go_sem, seval])
  have l1 : wordL s ≤ s.length := spanL_le _ _
  have e1 : List.drop (0 + (wordL s : Int)).toNat s = viaR1 s := by rw [viaR1, show (0 + (wordL s : Int)).toNat = wordL s by omega]
  have m1 : (viaR1 s).length = s.length - wordL s := by simp [viaR1]
  have l2 : spanL blankB (viaR1 s) ≤ (viaR1 s).length := spanL_le _ _
  have e2 : List.drop (0 + (wordL s : Int) + (spanL blankB (viaR1 s) : Int)).toNat s = viaR2 s := by
    rw [viaR2, show (0 + (wordL s : Int) + (spanL blankB (viaR1 s) : Int)).toNat = wordL s + spanL blankB (viaR1 s) by omega, ← List.drop_drop]; rfl
  have m2 : (viaR2 s).length = (viaR1 s).length - spanL blankB (viaR1 s) := by simp [viaR2]
  have l3 : wordL (viaR2 s) ≤ (viaR2 s).length := spanL_le _ _
  have e3 : List.drop (0 + (wordL s : Int) + (spanL blankB (viaR1 s) : Int) + (wordL (viaR2 s) : Int)).toNat s = viaR3 s := by
    rw [viaR3, show (0 + (wordL s : Int) + (spanL blankB (viaR1 s) : Int) + (wordL (viaR2 s) : Int)).toNat = wordL s + spanL blankB (viaR1 s) + wordL (viaR2 s) by omega, ← List.drop_drop, ← List.drop_drop]; rfl
  have m3 : (viaR3 s).length = (viaR2 s).length - wordL (viaR2 s) := by simp [viaR3]
  have l4 : spanL blankB (viaR3 s) ≤ (viaR3 s).length := spanL_le _ _
  have e4 : List.drop (0 + (wordL s : Int) + (spanL blankB (viaR1 s) : Int) + (wordL (viaR2 s) : Int) + (spanL blankB (viaR3 s) : Int)).toNat s = viaCom s := by
    rw [viaCom, show (0 + (wordL s : Int) + (spanL blankB (viaR1 s) : Int) + (wordL (viaR2 s) : Int) + (spanL blankB (viaR3 s) : Int)).toNat = wordL s + spanL blankB (viaR1 s) + wordL (viaR2 s) + spanL blankB (viaR3 s) by omega, ← List.drop_drop, ← List.drop_drop, ← List.drop_drop]; rfl
  have m4 : (viaCom s).length = (viaR3 s).length - spanL blankB (viaR3 s) := by simp [viaCom]
  have ev : List.take (wordL s) s = viaVer s := rfl
  have eb : List.take (wordL (viaR2 s)) (viaR2 s) = viaBy s := rfl
  have mv : (viaVer s).length = min (wordL s) s.length := by simp [viaVer]
  have mb : (viaBy s).length = min (wordL (viaR2 s)) (viaR2 s).length := by simp [viaBy]
  have hm : (1000000 : Nat) ≤ maxLen := by decide
  simp only [e1, e2, e3, e4, ev, eb]
  have hgap : ((spanL blankB (viaR1 s) : Int) = 0) ↔ viaR1 s = viaR2 s := by
    constructor
    · intro h
      rw [viaR2, show spanL blankB (viaR1 s) = 0 by omega, List.drop_zero]
    · intro h
      have := m2
      rw [← h] at this
      by_cases g : (viaR1 s).length = 0 <;> omega
  have bad : viaErr s = 3 → viaHop s = ([], [], []) := fun h => by rw [viaHop, if_neg (by omega)]
  have badE : viaErr s = 3 → AV.agg [AV.str [], AV.str [], AV.str []] = AV.agg [AV.str (viaHop s).fst, AV.str (viaHop s).snd.fst, AV.str (viaHop s).snd.snd] ∧ 3 = viaErr s := fun h => by
    rw [bad h]; exact ⟨rfl, h.symm⟩
  have goodE : viaErr s = 0 → AV.agg [AV.str (viaVer s), AV.str (viaBy s), AV.str (viaCom s)] = AV.agg [AV.str (viaHop s).fst, AV.str (viaHop s).snd.fst, AV.str (viaHop s).snd.snd] ∧ 0 = viaErr s := fun h => by
    rw [viaHop, if_pos h]; exact ⟨rfl, h.symm⟩
  refine ⟨fun h => ?_, fun h => ⟨by omega, by omega, by omega, by omega, by omega, by omega, fun _ _ => by omega, fun _ _ _ _ => by omega, fun g => ?_, fun g1 g2 g3 g4 => ⟨fun _ => by omega, fun g5 g6 => ?_, fun g5 => ?_⟩⟩⟩
  · have e : viaErr s = 2 := by rw [viaErr, if_pos h]
    rw [viaHop, if_neg (by omega), e]; exact ⟨rfl, rfl⟩
  · refine badE ?_
    rw [viaErr, if_neg h]
    by_cases hb : headB s = false
    · rw [if_pos hb]
    rw [if_neg hb]
    rw [Bool.not_eq_false, headB, Bool.and_eq_true, Bool.and_eq_true, decide_eq_true_eq] at hb
    rcases g with ((g | g) | g) | ⟨g, g'⟩
    · rw [hb.1] at g; cases g
    · exact absurd (hgap.1 g) hb.2.1
    · rw [hb.2.2] at g; cases g
    · rw [if_neg (fun h3 => g (by rw [viaCom, h3]; rfl)), g', if_neg (by simp)]
  · have hb : headB s = true := by
      rw [headB, Bool.and_eq_true, Bool.and_eq_true, decide_eq_true_eq]
      exact ⟨g1, fun e => g2 (hgap.2 e), g3⟩
    refine badE ?_
    rw [viaErr, if_neg h, if_neg (by rw [hb]; simp), if_neg (fun h3 => ?_), g5, if_neg (by decide)]
    rw [by_suf s h3] at g6; cases g6
  · have hb : headB s = true := by
      rw [headB, Bool.and_eq_true, Bool.and_eq_true, decide_eq_true_eq]
      exact ⟨g1, fun e => g2 (hgap.2 e), g3⟩
    refine goodE ?_
    rw [viaErr, if_neg h, if_neg (by rw [hb]; simp)]
    by_cases h3 : viaR3 s = []
    · rw [if_pos h3]
    rw [if_neg h3]
    by_cases hc : viaCom s = []
    · exfalso
      rw [by_notsuf s h3 hc g3] at g5
      simp [hc] at g5
    · rw [if_pos]
      simpa [hc] using g4
def tb_specParse : List Blk → List AV → Option (List Blk × AV × Prop)
  | [], [.str s] => some ([], .tuple [enc_hop (viaHop s), .int .i64 (viaErr s)], (s.length ≤ 1000000))
  | _, _ => none
theorem tb_specParse_ok : ∀ E args E' res p, tb_specParse E args = some (E', res, p) → p → SpecE Tryz.prog 18 E args E' res := by
  intro E args E' res p h hp
  unfold tb_specParse at h
  split at h
  · simp only [Option.some.injEq, Prod.mk.injEq] at h
    obtain ⟨rfl, rfl, rfl⟩ := h
    exact (specParse _ hp)
  · cases h
def T_specText : Tbl := fun g E args => (addT nilT 46 Go.Proofs.Tryz.Lib.tb_specJoin) g E args
theorem T_specText_ok : TblOK Tryz.prog T_specText := (addT_ok nilT_ok (by decide +kernel) Go.Proofs.Tryz.Lib.tb_specJoin_ok)
set_option maxRecDepth 100000 in
set_option maxHeartbeats 4000000 in
theorem specText (v b c : List UInt8) (h1 : v.length ≤ 1000000) (h2 : b.length ≤ 1000000) (h3 : c.length ≤ 1000000) : SpecE Tryz.prog 19 [] [.agg [.str v, .str b, .str c]] [] (.str (hopText (v, b, c))) := by
  refine specF0 (C := T_specText) (wr := false) (D := fun _ => []) (U := fun _ => none) (res := [.str (hopText (v, b, c))]) Tryz.Ty.mixed T_specText_ok Tryz.func19 (nA := 1) (by decide +kernel) rfl (fun _ => rfl) ?_
  simp only [Tryz.f19, bodyOf, rlOf]
  rw [W_V]
  simp (config := {maxSteps := 2000000}) only [T_specText, Go.Proofs.Tryz.Lib.tb_specJoin, go_sem, seval]
  (try simp (config := {maxSteps := 2000000}) only [gimp, impB, isT, go_sem, seval])
  refine ⟨fun h => ?_, fun h => ?_⟩
  · have e : Lib.join [v, b, c] [32] = hopText (v, b, c) := by
      simp only [hopText, if_neg h]
      simp [Lib.join]
    refine ⟨?_, e⟩
    rw [e]; simp only [hopText, List.length_append, List.length_cons, if_neg h]
    omega
  · have e : Lib.join [v, b] [32] = hopText (v, b, c) := by
      simp only [hopText, if_pos h]
      simp [Lib.join]
    refine ⟨?_, e⟩
    rw [e]; simp only [hopText, List.length_append, List.length_cons, if_pos h, List.length_nil]
    omega
def tb_specText : List Blk → List AV → Option (List Blk × AV × Prop)
  | [], [.agg [.str v, .str b, .str c]] => some ([], .str (hopText (v, b, c)), (v.length ≤ 1000000) ∧ (b.length ≤ 1000000) ∧ (c.length ≤ 1000000))
  | _, _ => none
theorem tb_specText_ok : ∀ E args E' res p, tb_specText E args = some (E', res, p) → p → SpecE Tryz.prog 19 E args E' res := by
  intro E args E' res p h hp
  unfold tb_specText at h
  split at h
  · simp only [Option.some.injEq, Prod.mk.injEq] at h
    obtain ⟨rfl, rfl, rfl⟩ := h
    exact (specText _ _ _ hp.1 hp.2.1 hp.2.2)
  · cases h
end Go.Proofs.Tryz.Via
end
section
set_option linter.unusedVariables false
set_option linter.unusedSimpArgs false
namespace Go.Proofs.Tryz.SlcV
open Go Go.Abs Go.Proofs Go.Mdl
def tbP_V (sz : Nat) (z : AV) (v : List AV) (p : Hop → Bool) (q : Hop → Prop) : List Blk → List AV → Option (List Blk × AV × Prop)
  | [.cells sz' false z' v'], [a, .ptr 0 0 0 1] => some ([.cells sz' false z' v'], .bool (p (dec_hop a)), sz' = sz ∧ z' = z ∧ v' = v ∧ a = enc_hop (dec_hop a) ∧ q (dec_hop a))
  | _, _ => none
theorem tbP_V_ok {f : FuncId} {sz : Nat} {z : AV} {v : List AV} {p : Hop → Bool} {q : Hop → Prop} (hs : ∀ x, q x → SpecE Tryz.prog f [.cells sz false z v] [enc_hop x, .ptr 0 0 0 1] [.cells sz false z v] (.bool (p x))) :
    ∀ E args E' res q', tbP_V sz z v p q E args = some (E', res, q') → q' → SpecE Tryz.prog f E args E' res := by
  intro E args E' res q' h hq
  unfold tbP_V at h
  split at h
  · rename_i sz' z' v' a
    simp only [Option.some.injEq, Prod.mk.injEq] at h
    obtain ⟨rfl, rfl, rfl⟩ := h
    obtain ⟨rfl, rfl, rfl, h1, h2⟩ := hq
    have := hs _ h2
    rw [← h1] at this; exact this
  · cases h
theorem idx_V {f : FuncId} (hy : ¬ f = 1000000) {sz : Nat} {z : AV} {v : List AV} (hv : BoxOK v) (hz : ∀ σ, ren σ z = z) {p : Hop → Bool} {q : Hop → Prop} (hs : ∀ x, q x → SpecE Tryz.prog f [.cells sz false z v] [enc_hop x, .ptr 0 0 0 1] [.cells sz false z v] (.bool (p x)))
    (l : List (Hop)) (hq : ∀ x ∈ l, q x) (hl : l.length ≤ maxLen) :
    SpecE Tryz.prog 71 [.cells sz false z v] [.list 3 (l.map enc_hop), .clo f 0 [.ptr 0 0 0 1]] [.cells sz false z v] (.int .i64 (idxP p l)) := by
  refine specFE (C := addT nilT f (tbP_V sz z v p q)) (wr := false) (D := fun _ => []) (U := fun _ => none) (E := [.cells sz false z v]) (E' := [.cells sz false z v]) (res := [.int .i64 (idxP p l)]) [] Tryz.Ty.mixed (addT_ok nilT_ok (by simp) (tbP_V_ok hs)) Tryz.func71 (nE := 1) (nA := 2) (by decide +kernel) rfl rfl ?_
  simp only [Tryz.f71, bodyOf, rlOf]
  rw [W_V]
  have hm : l.length ≤ 9223372036854775807 := hl
  obtain ⟨v1, v2, v3, v4⟩ := hv
  have v5 : ∀ L, contOK L v = True := fun L => contOK_pure v4
  simp only [tbP_V, hy, hz, v1, v2, v3, v5, go_sem, go_sem, seval, true_and]
  refine VL_inv (X := Nat) (fun k => ⟨[(0, .list 3 (l.map enc_hop)), (1, .clo f 0 [.ptr 0 0 0 1]), (7, .int .i64 l.length), (8, .int .i64 k)], [(0, .cells sz false z v)]⟩) (fun k => k ≤ l.length ∧ (l.take k).any p = false) (fun k => l.length - k) 0 ?_ ?_ ?_
  · simp only [tbP_V, hy, hz, v1, v2, v3, v5, go_sem, go_sem, seval]
    try rfl
  · exact ⟨Nat.zero_le _, by simp⟩
  rintro k ⟨hk, hn⟩
  simp only [tbP_V, hy, hz, v1, v2, v3, v5, go_sem, go_sem, seval, true_and, enc_hop, dec_hop]
  refine ⟨fun hlt => ⟨by omega, hq _ (List.mem_of_getElem? (getD_of_lt (s := l) (i := k) (d := ([], [], [])) (by omega))), fun hp => (idxP_hit ([], [], []) (by omega) hn hp).symm, fun hp => ⟨by omega, k + 1, by omega, ⟨by omega, by rw [any_take_succ ([], [], []) (by omega) hn]; exact hp⟩, by omega⟩⟩, fun hge => ?_⟩
  have : k = l.length := by omega
  subst this
  rw [List.take_length] at hn
  exact (idxP_none hn).symm
def tbI_V (sz : Nat) (z : AV) (v : List AV) (f : FuncId) (p : Hop → Bool) (l : List (Hop)) : List Blk → List AV → Option (List Blk × AV × Prop)
  | [.cells sz' false z' v'], [.list n l', .clo f' 0 [.ptr 0 0 0 1]] => some ([.cells sz' false z' v'], .int .i64 (idxP p l), sz' = sz ∧ z' = z ∧ v' = v ∧ n = 3 ∧ l' = l.map enc_hop ∧ f' = f)
  | _, _ => none
theorem has_V {f : FuncId} (hy : ¬ f = 1000000) {sz : Nat} {z : AV} {v : List AV} (hv : BoxOK v) (hz : ∀ σ, ren σ z = z) {p : Hop → Bool} {q : Hop → Prop} (hs : ∀ x, q x → SpecE Tryz.prog f [.cells sz false z v] [enc_hop x, .ptr 0 0 0 1] [.cells sz false z v] (.bool (p x)))
    (l : List (Hop)) (hq : ∀ x ∈ l, q x) (hl : l.length ≤ maxLen) :
    SpecE Tryz.prog 33 [.cells sz false z v] [.list 3 (l.map enc_hop), .clo f 0 [.ptr 0 0 0 1]] [.cells sz false z v] (.bool (l.any p)) := by
  have ht : ∀ E args E' res q', tbI_V sz z v f p l E args = some (E', res, q') → q' → SpecE Tryz.prog 71 E args E' res := by
    intro E args E' res q' h hq'
    unfold tbI_V at h
    split at h
    · simp only [Option.some.injEq, Prod.mk.injEq] at h
      obtain ⟨rfl, rfl, rfl⟩ := h
      obtain ⟨rfl, rfl, rfl, rfl, rfl, rfl⟩ := hq'
      exact idx_V hy hv hz hs l hq hl
    · cases h
  refine specFE (C := addT nilT 71 (tbI_V sz z v f p l)) (wr := false) (D := fun _ => []) (U := fun _ => none) (E := [.cells sz false z v]) (E' := [.cells sz false z v]) (res := [.bool (l.any p)]) [] Tryz.Ty.mixed (addT_ok nilT_ok (by decide +kernel) ht) Tryz.func33 (nE := 1) (nA := 2) (by decide +kernel) rfl rfl ?_
  simp only [Tryz.f33, bodyOf, rlOf]
  rw [W_V]
  obtain ⟨v1, v2, v3, v4⟩ := hv
  have v5 : ∀ L, contOK L v = True := fun L => contOK_pure v4
  simp only [tbI_V, hz, v1, v2, v3, v5, go_sem, go_sem, seval, true_and]
  rw [Bool.eq_iff_iff, decide_eq_true_eq, idxP_ge]
end Go.Proofs.Tryz.SlcV
end
section
set_option linter.unusedVariables false
set_option linter.unusedSimpArgs false
namespace Go.Mdl
open Go Go.Abs
def nmVia : List UInt8 := [86, 105, 97]
def hopsS (l : List (List UInt8)) : List Hop := (l.filter fun e => decide (viaErr e = 0)).map viaHop
def viaAll (l : List Fld) : List Hop := hopsS (splitS (combS l nmVia))
def viaLoops (l : List Fld) (n : List UInt8) : Bool := (viaAll l).any fun h => foldS h.2.1 n
def viaText (minor : Int) (n : List UInt8) : List UInt8 := hopText (if minor ≤ 0 then [49, 46, 48] else [49, 46, 49], n, [])
def viaApp (l : List Fld) (minor : Int) (n : List UInt8) : List Fld := withS l nmVia (viaText minor n)
theorem hops_take {l : List (List UInt8)} {k : Nat} (h : k < l.length) : hopsS (l.take (k + 1)) = hopsS (l.take k) ++ if viaErr (l.getD k []) = 0 then [viaHop (l.getD k [])] else [] := by
  rw [take_succ_getD [] h, hopsS, List.filter_append, List.map_append]
  congr 1
  by_cases e : viaErr (l.getD k []) = 0
  · rw [if_pos e, List.filter_cons_of_pos (by simpa using e)]; rfl
  · rw [if_neg e, List.filter_cons_of_neg (by simpa using e)]; rfl
theorem hops_len (l : List (List UInt8)) : (hopsS l).length ≤ l.length := by
  rw [hopsS, List.length_map]; exact List.length_filter_le _ _
theorem viaHop_len (s : List UInt8) : (viaHop s).1.length ≤ s.length ∧ (viaHop s).2.1.length ≤ s.length ∧ (viaHop s).2.2.length ≤ s.length := by
  unfold viaHop
  split
  · simp only [viaVer, viaBy, viaCom, viaR3, viaR2, viaR1, List.length_take, List.length_drop]
    omega
  · simp
theorem hops_mem {l : List (List UInt8)} {h : Hop} (hm : h ∈ hopsS l) : ∃ e ∈ l, viaErr e = 0 ∧ h = viaHop e := by
  simp only [hopsS, List.mem_map, List.mem_filter, decide_eq_true_eq] at hm
  obtain ⟨e, ⟨h1, h2⟩, h3⟩ := hm
  exact ⟨e, h1, h2, h3.symm⟩
theorem upTo_atV {c : UInt8} : ∀ {s : List UInt8} {x : Nat}, x ≤ s.length → (s.take x).all (fun b => !decide (b = c)) = true → (x < s.length → s.getD x 0 = c) → x = upTo c s
  | [], x, hx, _, _ => by simp at hx; simp [upTo, hx]
  | b :: l, x, hx, hn, he => by
    cases x with
    | zero => have := he (by simp); simp at this; simp [upTo, this]
    | succ x =>
      simp only [List.take_succ_cons, List.all_cons, Bool.and_eq_true, Bool.not_eq_true', decide_eq_false_iff_not] at hn
      have := upTo_atV (s := l) (x := x) (by simpa using hx) hn.2 (fun h => by have := he (by simpa using h); simpa using this)
      simp [upTo, hn.1, ← this]
theorem behind_com (s : List UInt8) : behindI s 0 = (s.length : Int) ↔ closeAt scan0 s = some s.length := by
  unfold behindI
  rw [List.drop_zero]
  cases closeAt scan0 s with
  | none => constructor <;> intro h <;> first | omega | cases h
  | some n =>
    show ((0 + n : Nat) : Int) = _ ↔ some n = some _
    rw [Option.some.injEq]; omega
theorem blank_iff (c : UInt8) : blankB c = true ↔ c = 32 ∨ c = 9 := by simp [blankB]
theorem comb_le {l : List Fld} {n : List UInt8} (hl : l.length ≤ 1000) (hv : ∀ f ∈ l, f.2.length ≤ 900) : (combS l n).length ≤ 1000000 := by
  have h1 := allS_len l n
  have hj := joinS_len (l := allS l n) (m := 900) (fun e he => by obtain ⟨f, hf, rfl, _⟩ := allS_mem he; exact hv f hf)
  have hj2 : (joinS (allS l n)).length ≤ 1000 * (900 + 2) := Nat.le_trans hj (Nat.mul_le_mul (by omega) (Nat.le_refl _))
  exact Nat.le_trans hj2 (by decide)
end Go.Mdl
namespace Go.Proofs.Tryz.Via
open Go Go.Abs Go.Proofs Go.Mdl
def T_specAll : Tbl := fun g E args => (addT (addT (addT nilT 30 Go.Proofs.Tryz.Hdr.tb_specCombined) 31 Go.Proofs.Tryz.Lists.tb_specSplit) 18 Go.Proofs.Tryz.Via.tb_specParse) g E args
theorem T_specAll_ok : TblOK Tryz.prog T_specAll := (addT_ok (addT_ok (addT_ok nilT_ok (by decide +kernel) Go.Proofs.Tryz.Hdr.tb_specCombined_ok) (by decide +kernel) Go.Proofs.Tryz.Lists.tb_specSplit_ok) (by decide +kernel) Go.Proofs.Tryz.Via.tb_specParse_ok)
set_option maxRecDepth 100000 in
set_option maxHeartbeats 4000000 in
theorem specAll (l : List Fld) (hl : l.length ≤ 1000) (hv : ∀ f ∈ l, f.2.length ≤ 900) : SpecE Tryz.prog 11 [] [enc_flds l] [] (enc_hops (viaAll l)) := by
  refine specF0 (C := T_specAll) (wr := false) (D := fun _ => []) (U := fun _ => none) (res := [enc_hops (viaAll l)]) Tryz.Ty.mixed T_specAll_ok Tryz.func11 (nA := 1) (by decide +kernel) rfl (fun _ => rfl) ?_
  simp only [Tryz.f11, bodyOf, rlOf]
  rw [W_V]
  simp (config := {maxSteps := 2000000}) only [T_specAll, Go.Proofs.Tryz.Hdr.tb_specCombined, Go.Proofs.Tryz.Lists.tb_specSplit, Go.Proofs.Tryz.Via.tb_specParse, go_sem, seval]
  (try simp (config := {maxSteps := 2000000}) only [gimp, impB, isT, go_sem, seval])
  have hm : (3 : Nat) ≤ maxLen := by decide
  have hc := comb_le (n := nmVia) hl hv
  have hc' : (combS l [86, 105, 97]).length ≤ 1000000 := hc
  have hk1 := splitS_count (combS l [86, 105, 97])
  have hk2 : ∀ e ∈ splitS (combS l [86, 105, 97]), e.length ≤ 1000000 := fun e he => by have := (splitS_mem he).1; omega
  refine ⟨⟨hl, hm, fun f hf => by have := hv f hf; omega⟩, by omega, ?_⟩
  refine VL_inv (X := Nat) (fun k => ⟨[(7, .ref 624 0 (hopsS ((splitS (combS l [86, 105, 97])).take k)).length (hopsS ((splitS (combS l [86, 105, 97])).take k)).length), (22, enc_strs (splitS (combS l [86, 105, 97]))), (23, .int .i64 (splitS (combS l [86, 105, 97])).length), (24, .int .i64 k)], [(624, .cells 3 false (.agg [.str [], .str [], .str []]) ((hopsS ((splitS (combS l [86, 105, 97])).take k)).map enc_hop))]⟩) (fun k => k ≤ (splitS (combS l [86, 105, 97])).length) (fun k => (splitS (combS l [86, 105, 97])).length - k) 0 ?_ ?_ ?_
  · simp only [List.take_zero, hopsS, List.filter_nil, List.map_nil, T_specAll, Go.Proofs.Tryz.Hdr.tb_specCombined, Go.Proofs.Tryz.Lists.tb_specSplit, Go.Proofs.Tryz.Via.tb_specParse, go_sem, seval]
    try rfl
  · exact Nat.zero_le _
  rintro k hk
  simp (config := {maxSteps := 2000000}) only [T_specAll, Go.Proofs.Tryz.Hdr.tb_specCombined, Go.Proofs.Tryz.Lists.tb_specSplit, Go.Proofs.Tryz.Via.tb_specParse, go_sem, seval]
  (try simp (config := {maxSteps := 2000000}) only [gimp, impB, isT, go_sem, seval])
  have hle := hops_len ((splitS (combS l [86, 105, 97])).take k)
  have hlt' : ((splitS (combS l [86, 105, 97])).take k).length ≤ 1000001 := by rw [List.length_take]; omega
  have hs := fun h : k < (splitS (combS l [86, 105, 97])).length => hops_take (l := splitS (combS l [86, 105, 97])) h
  refine ⟨fun hlt => ⟨by omega, hk2 _ (List.mem_of_getElem? (getD_of_lt (s := splitS (combS l [86, 105, 97])) (d := []) (by omega))), fun hy => ⟨by omega, by omega, k + 1, ⟨⟨?_, by omega⟩, ?_⟩, by omega, by omega⟩, fun hno => ⟨by omega, k + 1, ⟨⟨?_, by omega⟩, ?_⟩, by omega, by omega⟩⟩, fun hge => ?_⟩
  · rw [hs (by omega), if_pos hy]; simp
  · rw [hs (by omega), if_pos hy]; simp [enc_hop]
  · rw [hs (by omega), if_neg hno]; simp
  · rw [hs (by omega), if_neg hno]; simp
  · rw [List.take_length, List.take_of_length_le (by omega)]; rfl
def tb_specAll : List Blk → List AV → Option (List Blk × AV × Prop)
  | [], [a0] => some ([], enc_hops (viaAll (dec_flds a0)), ((dec_flds a0).length ≤ 1000) ∧ (∀ f ∈ (dec_flds a0), f.2.length ≤ 900) ∧ argOK a0 (enc_flds (dec_flds a0)))
  | _, _ => none
theorem tb_specAll_ok : ∀ E args E' res p, tb_specAll E args = some (E', res, p) → p → SpecE Tryz.prog 11 E args E' res := by
  intro E args E' res p h hp
  unfold tb_specAll at h
  split at h
  · simp only [Option.some.injEq, Prod.mk.injEq] at h
    obtain ⟨rfl, rfl, rfl⟩ := h
    exact SpecE.args (specAll _ hp.1 hp.2.1) (.cons hp.2.2 .nil)
  · cases h
def T_specLoopF : Tbl := fun g E args => (addT nilT 35 Go.Proofs.Tryz.Oct.tb_specFold) g E args
theorem T_specLoopF_ok : TblOK Tryz.prog T_specLoopF := (addT_ok nilT_ok (by decide +kernel) Go.Proofs.Tryz.Oct.tb_specFold_ok)
set_option maxRecDepth 100000 in
set_option maxHeartbeats 4000000 in
theorem specLoopF (a b c w : List UInt8) (hs : b.length ≤ maxLen) : SpecE Tryz.prog 34 [.cells 1 false (.str []) [.str w]] [.agg [.str a, .str b, .str c], .ptr 0 0 0 1] [.cells 1 false (.str []) [.str w]] (.bool (foldS b w)) := by
  refine specFE (C := T_specLoopF) (wr := false) (D := fun _ => []) (U := fun _ => none) (E := [.cells 1 false (.str []) [.str w]]) (E' := [.cells 1 false (.str []) [.str w]]) (res := [.bool (foldS b w)]) [] Tryz.Ty.mixed T_specLoopF_ok Tryz.func34 (args := [.agg [.str a, .str b, .str c], .ptr 0 0 0 1]) (nE := 1) (nA := 2) (by decide +kernel) rfl rfl ?_
  simp only [Tryz.f34, bodyOf, rlOf]
  rw [W_V]
  simp (config := {maxSteps := 2000000}) only [T_specLoopF, Go.Proofs.Tryz.Oct.tb_specFold, go_sem, seval]
  (try simp (config := {maxSteps := 2000000}) only [gimp, impB, isT, go_sem, seval])
  exact hs
set_option maxRecDepth 100000 in
set_option maxHeartbeats 4000000 in
theorem specHasF (l : List Hop) (w : List UInt8) (hl : l.length ≤ maxLen) (hq : ∀ x ∈ l, x.2.1.length ≤ maxLen) : SpecE Tryz.prog 33 [.cells 1 false (.str []) [.str w]] [enc_hops l, .clo 34 0 [.ptr 0 0 0 1]] [.cells 1 false (.str []) [.str w]] (.bool (l.any fun h => foldS h.2.1 w)) := by
  exact SlcV.has_V (by decide) (boxStr w) (fun _ => rfl) (q := fun x => x.2.1.length ≤ maxLen) (fun x hx => specLoopF x.1 x.2.1 x.2.2 w hx) l hq hl
def tb_specHasF : List Blk → List AV → Option (List Blk × AV × Prop)
  | [.cells 1 false d [.str w]], [a0, .clo 34 0 [.ptr 0 0 0 1]] => some ([.cells 1 false (.str []) [.str w]], .bool ((dec_hops a0).any fun h => foldS h.2.1 w), (d = .str []) ∧ ((dec_hops a0).length ≤ maxLen) ∧ (∀ x ∈ (dec_hops a0), x.2.1.length ≤ maxLen) ∧ argOK a0 (enc_hops (dec_hops a0)))
  | _, _ => none
theorem tb_specHasF_ok : ∀ E args E' res p, tb_specHasF E args = some (E', res, p) → p → SpecE Tryz.prog 33 E args E' res := by
  intro E args E' res p h hp
  unfold tb_specHasF at h
  split at h
  · simp only [Option.some.injEq, Prod.mk.injEq] at h
    obtain ⟨rfl, rfl, rfl⟩ := h
    obtain ⟨rfl, hp⟩ := hp
    exact SpecE.args (specHasF _ _ hp.1 hp.2.1) (.cons hp.2.2 (.cons (argOK.refl _) .nil))
  · cases h
def T_specLoops : Tbl := fun g E args => (addT (addT nilT 11 Go.Proofs.Tryz.Via.tb_specAll) 33 Go.Proofs.Tryz.Via.tb_specHasF) g E args
theorem T_specLoops_ok : TblOK Tryz.prog T_specLoops := (addT_ok (addT_ok nilT_ok (by decide +kernel) Go.Proofs.Tryz.Via.tb_specAll_ok) (by decide +kernel) Go.Proofs.Tryz.Via.tb_specHasF_ok)
set_option maxRecDepth 100000 in
set_option maxHeartbeats 4000000 in
theorem specLoops (l : List Fld) (n : List UInt8) (hl : l.length ≤ 1000) (hv : ∀ f ∈ l, f.2.length ≤ 900) : SpecE Tryz.prog 13 [] [enc_flds l, .str n] [] (.bool (viaLoops l n)) := by
  refine specF0 (C := T_specLoops) (wr := false) (D := fun _ => []) (U := fun _ => none) (res := [.bool (viaLoops l n)]) Tryz.Ty.mixed T_specLoops_ok Tryz.func13 (nA := 2) (by decide +kernel) rfl (fun _ => rfl) ?_
  simp only [Tryz.f13, bodyOf, rlOf]
  rw [W_V]
  simp (config := {maxSteps := 2000000}) only [T_specLoops, Go.Proofs.Tryz.Via.tb_specAll, Go.Proofs.Tryz.Via.tb_specHasF, go_sem, seval]
  (try simp (config := {maxSteps := 2000000}) only [gimp, impB, isT, go_sem, seval])
  have hc := comb_le (n := nmVia) hl hv
  have hk1 := splitS_count (combS l nmVia)
  have hk3 : (viaAll l).length ≤ (splitS (combS l nmVia)).length := hops_len _
  have hm : (1000001 : Nat) ≤ maxLen := by decide
  refine ⟨⟨hl, hv⟩, ⟨by omega, fun x hx => ?_⟩, rfl⟩
  obtain ⟨e, h1, -, rfl⟩ := hops_mem hx
  have h2 := (viaHop_len e).2.1
  have h3 := (splitS_mem h1).1
  omega
def tb_specLoops : List Blk → List AV → Option (List Blk × AV × Prop)
  | [], [a0, .str n] => some ([], .bool (viaLoops (dec_flds a0) n), ((dec_flds a0).length ≤ 1000) ∧ (∀ f ∈ (dec_flds a0), f.2.length ≤ 900) ∧ argOK a0 (enc_flds (dec_flds a0)))
  | _, _ => none
theorem tb_specLoops_ok : ∀ E args E' res p, tb_specLoops E args = some (E', res, p) → p → SpecE Tryz.prog 13 E args E' res := by
  intro E args E' res p h hp
  unfold tb_specLoops at h
  split at h
  · simp only [Option.some.injEq, Prod.mk.injEq] at h
    obtain ⟨rfl, rfl, rfl⟩ := h
    exact SpecE.args (specLoops _ _ hp.1 hp.2.1) (.cons hp.2.2 (.cons (argOK.refl _) .nil))
  · cases h
def T_specAppend : Tbl := fun g E args => (addT (addT nilT 19 Go.Proofs.Tryz.Via.tb_specText) 36 Go.Proofs.Tryz.Hdr.tb_specWith) g E args
theorem T_specAppend_ok : TblOK Tryz.prog T_specAppend := (addT_ok (addT_ok nilT_ok (by decide +kernel) Go.Proofs.Tryz.Via.tb_specText_ok) (by decide +kernel) Go.Proofs.Tryz.Hdr.tb_specWith_ok)
set_option maxRecDepth 100000 in
set_option maxHeartbeats 4000000 in
theorem specAppend (l : List Fld) (m : Int) (n : List UInt8) (hl : l.length ≤ 1000) (hn : n.length ≤ 1000000) : SpecE Tryz.prog 16 [] [enc_flds l, .int .i64 m, .str n] [] (enc_flds (viaApp l m n)) := by
  refine specF0 (C := T_specAppend) (wr := false) (D := fun _ => []) (U := fun _ => none) (res := [enc_flds (viaApp l m n)]) Tryz.Ty.mixed T_specAppend_ok Tryz.func16 (nA := 3) (by decide +kernel) rfl (fun _ => rfl) ?_
  simp only [Tryz.f16, bodyOf, rlOf]
  rw [W_V]
  simp (config := {maxSteps := 2000000}) only [T_specAppend, Go.Proofs.Tryz.Via.tb_specText, Go.Proofs.Tryz.Hdr.tb_specWith, go_sem, seval]
  (try simp (config := {maxSteps := 2000000}) only [gimp, impB, isT, go_sem, seval])
  refine ⟨fun h => ⟨hn, by omega, ?_⟩, fun h => ⟨hn, by omega, ?_⟩⟩
  · rw [List.take_length, viaApp, viaText, if_pos h]; rfl
  · rw [List.take_length, viaApp, viaText, if_neg (by omega)]; rfl
def tb_specAppend : List Blk → List AV → Option (List Blk × AV × Prop)
  | [], [a0, .int .i64 m, .str n] => some ([], enc_flds (viaApp (dec_flds a0) m n), ((dec_flds a0).length ≤ 1000) ∧ (n.length ≤ 1000000) ∧ argOK a0 (enc_flds (dec_flds a0)))
  | _, _ => none
theorem tb_specAppend_ok : ∀ E args E' res p, tb_specAppend E args = some (E', res, p) → p → SpecE Tryz.prog 16 E args E' res := by
  intro E args E' res p h hp
  unfold tb_specAppend at h
  split at h
  · simp only [Option.some.injEq, Prod.mk.injEq] at h
    obtain ⟨rfl, rfl, rfl⟩ := h
    exact SpecE.args (specAppend _ _ _ hp.1 hp.2.1) (.cons hp.2.2 (.cons (argOK.refl _) (.cons (argOK.refl _) .nil)))
  · cases h
def T_specWordR : Tbl := fun g E args => nilT g E args
theorem T_specWordR_ok : TblOK Tryz.prog T_specWordR := nilT_ok
set_option maxRecDepth 100000 in
set_option maxHeartbeats 4000000 in
theorem specWordR (s : List UInt8) (hs : s.length ≤ 1000000) : SpecE Tryz.prog 67 [] [.str s] [] (.int .i64 (wordL s)) := by
  refine specF0 (C := T_specWordR) (wr := false) (D := fun _ => []) (U := fun _ => none) (res := [.int .i64 (wordL s)]) Tryz.Ty.mixed T_specWordR_ok Tryz.func67 (nA := 1) (by decide +kernel) rfl (fun _ => rfl) ?_
  simp only [Tryz.f67, bodyOf, rlOf]
  rw [W_V]
  simp (config := {maxSteps := 2000000}) only [T_specWordR, go_sem, seval]
  (try simp (config := {maxSteps := 2000000}) only [gimp, impB, isT, go_sem, seval])
  refine VL_inv (X := Nat) (fun x => ⟨[(0, .str s), (3, .int .i64 x)], []⟩) (fun x => x ≤ s.length ∧ (s.take x).all (fun c => !blankB c) = true) (fun x => s.length - x) 0 ?_ ?_ ?_
  · simp only [T_specWordR, go_sem, seval]
    try rfl
  · exact ⟨Nat.zero_le _, by simp⟩
  rintro x ⟨hx, hn⟩
  simp (config := {maxSteps := 2000000}) only [T_specWordR, go_sem, seval]
  (try simp (config := {maxSteps := 2000000}) only [gimp, impB, isT, go_sem, seval])
  refine ⟨fun _ => by omega, ⟨fun _ _ => by omega, fun _ _ => by omega⟩, fun h1 h2 h3 => ⟨by omega, x + 1, by omega, ⟨by omega, take_all_succ (by omega) hn ?_⟩, by omega⟩, fun h => ?_⟩
  · rw [Bool.not_eq_true', ← Bool.not_eq_true, blank_iff]
    exact not_or.2 ⟨h2, h3⟩
  · by_cases h1 : x < s.length
    · have : blankB (s.getD x 0) = true := by
        rw [blank_iff]
        by_cases h2 : s.getD x 0 = 32
        · exact .inl h2
        · by_cases h3 : s.getD x 0 = 9
          · exact .inr h3
          · have h1' : (x : Int) < s.length := by omega
            rw [decide_eq_true h1', decide_eq_false h2, decide_eq_false h3] at h
            cases h
      rw [wordL, span_step h1 hn (by rw [this]; rfl)]
    · have : x = s.length := by omega
      subst this
      rw [List.take_length] at hn
      rw [wordL, span_end hn]
def tb_specWordR : List Blk → List AV → Option (List Blk × AV × Prop)
  | [], [.str s] => some ([], .int .i64 (wordL s), (s.length ≤ 1000000))
  | _, _ => none
theorem tb_specWordR_ok : ∀ E args E' res p, tb_specWordR E args = some (E', res, p) → p → SpecE Tryz.prog 67 E args E' res := by
  intro E args E' res p h hp
  unfold tb_specWordR at h
  split at h
  · simp only [Option.some.injEq, Prod.mk.injEq] at h
    obtain ⟨rfl, rfl, rfl⟩ := h
    exact (specWordR _ hp)
  · cases h
def T_specVersionR : Tbl := fun g E args => (addT nilT 22 Go.Proofs.Tryz.Oct.tb_specTokenR) g E args
theorem T_specVersionR_ok : TblOK Tryz.prog T_specVersionR := (addT_ok nilT_ok (by decide +kernel) Go.Proofs.Tryz.Oct.tb_specTokenR_ok)
set_option maxRecDepth 100000 in
set_option maxHeartbeats 4000000 in
theorem specVersionR (s : List UInt8) (hs : s.length ≤ 1000000) : SpecE Tryz.prog 70 [] [.str s] [] (.bool (verB s)) := by
  refine specF0 (C := T_specVersionR) (wr := false) (D := fun _ => []) (U := fun _ => none) (res := [.bool (verB s)]) Tryz.Ty.mixed T_specVersionR_ok Tryz.func70 (nA := 1) (by decide +kernel) rfl (fun _ => rfl) ?_
  simp only [Tryz.f70, bodyOf, rlOf]
  rw [W_V]
  simp (config := {maxSteps := 2000000}) only [T_specVersionR, Go.Proofs.Tryz.Oct.tb_specTokenR, go_sem, seval]
  (try simp (config := {maxSteps := 2000000}) only [gimp, impB, isT, go_sem, seval])
  refine VL_inv (X := Nat) (fun x => ⟨[(0, .str s), (3, .int .i64 x)], []⟩) (fun x => x ≤ s.length ∧ (s.take x).all (fun c => !decide (c = 47)) = true) (fun x => s.length - x) 0 ?_ ?_ ?_
  · simp only [T_specVersionR, Go.Proofs.Tryz.Oct.tb_specTokenR, go_sem, seval]
    try rfl
  · exact ⟨Nat.zero_le _, by simp⟩
  rintro x ⟨hx, hn⟩
  simp (config := {maxSteps := 2000000}) only [T_specVersionR, Go.Proofs.Tryz.Oct.tb_specTokenR, go_sem, seval]
  (try simp (config := {maxSteps := 2000000}) only [gimp, impB, isT, go_sem, seval])
  have hup : x < s.length → s.getD x 0 = 47 → upTo 47 s = x := fun h1 h2 => by
    exact (upTo_atV (by omega) hn (fun _ => h2)).symm
  have hno : s.length ≤ x → upTo 47 s = s.length := fun h1 => by
    have : x = s.length := by omega
    subst this
    exact (upTo_atV (Nat.le_refl _) hn (fun h => absurd h (Nat.lt_irrefl _))).symm
  refine ⟨fun hlt => ⟨by omega, fun h => ⟨by omega, by rw [List.length_take]; omega, ⟨fun _ => by omega, fun _ => by omega⟩, ⟨fun _ => by omega, fun _ => by omega⟩, fun _ => by rw [List.length_drop]; omega, ?_⟩, fun h => ⟨by omega, x + 1, by omega, ⟨by omega, take_all_succ (by omega) hn (by simpa using h)⟩, by omega⟩⟩, fun hge => ⟨by omega, ?_⟩⟩
  · have h1 : x < s.length := by omega
    rw [verB, hup h1 h]
    simp [h1]
  · rw [verB, hno (by omega)]
    simp
def tb_specVersionR : List Blk → List AV → Option (List Blk × AV × Prop)
  | [], [.str s] => some ([], .bool (verB s), (s.length ≤ 1000000))
  | _, _ => none
theorem tb_specVersionR_ok : ∀ E args E' res p, tb_specVersionR E args = some (E', res, p) → p → SpecE Tryz.prog 70 E args E' res := by
  intro E args E' res p h hp
  unfold tb_specVersionR at h
  split at h
  · simp only [Option.some.injEq, Prod.mk.injEq] at h
    obtain ⟨rfl, rfl, rfl⟩ := h
    exact (specVersionR _ hp)
  · cases h
def T_specParseR : Tbl := fun g E args => (addT (addT (addT (addT (addT (addT nilT 67 Go.Proofs.Tryz.Via.tb_specWordR) 68 Go.Proofs.Tryz.Cur.tb_specSkipR) 69 Go.Proofs.Tryz.Host.tb_specParseR) 70 Go.Proofs.Tryz.Via.tb_specVersionR) 22 Go.Proofs.Tryz.Oct.tb_specTokenR) 49 Go.Proofs.Tryz.Lists.tb_specBehind) g E args
theorem T_specParseR_ok : TblOK Tryz.prog T_specParseR := (addT_ok (addT_ok (addT_ok (addT_ok (addT_ok (addT_ok nilT_ok (by decide +kernel) Go.Proofs.Tryz.Via.tb_specWordR_ok) (by decide +kernel) Go.Proofs.Tryz.Cur.tb_specSkipR_ok) (by decide +kernel) Go.Proofs.Tryz.Host.tb_specParseR_ok) (by decide +kernel) Go.Proofs.Tryz.Via.tb_specVersionR_ok) (by decide +kernel) Go.Proofs.Tryz.Oct.tb_specTokenR_ok) (by decide +kernel) Go.Proofs.Tryz.Lists.tb_specBehind_ok)
set_option maxRecDepth 100000 in
set_option maxHeartbeats 4000000 in
theorem specParseR (s : List UInt8) (hs : s.length ≤ 1000000) : SpecE Tryz.prog 32 [] [.str s] [] (.tuple [enc_hop (viaHop s), .int .i64 (viaErr s)]) := by
  refine specF0 (C := T_specParseR) (wr := false) (D := fun i => if i = 4 then [7, 8] else []) (U := fun _ => none) (res := [enc_hop (viaHop s), .int .i64 (viaErr s)]) Tryz.Ty.mixed T_specParseR_ok Tryz.func32 (nA := 1) (by decide +kernel) rfl (fun _ => rfl) ?_
  simp only [Tryz.f32, bodyOf, rlOf]
  rw [W_V]
  simp (config := {maxSteps := 2000000}) only [T_specParseR, Go.Proofs.Tryz.Via.tb_specWordR, Go.Proofs.Tryz.Cur.tb_specSkipR, Go.Proofs.Tryz.Host.tb_specParseR, Go.Proofs.Tryz.Via.tb_specVersionR, Go.Proofs.Tryz.Oct.tb_specTokenR, Go.Proofs.Tryz.Lists.tb_specBehind, go_sem, seval]
  (try simp (config := {maxSteps := 2000000}) only [gimp, impB, isT, go_sem, seval])
  have l1 : wordL s ≤ s.length := spanL_le _ _
  have e1 : List.drop (wordL s) s = viaR1 s := rfl
  have m1 : (viaR1 s).length = s.length - wordL s := by simp [viaR1]
  have l2 : spanL blankB (viaR1 s) ≤ (viaR1 s).length := spanL_le _ _
  have e2 : List.drop (spanL blankB (viaR1 s)) (viaR1 s) = viaR2 s := rfl
  have m2 : (viaR2 s).length = (viaR1 s).length - spanL blankB (viaR1 s) := by simp [viaR2]
  have l3 : wordL (viaR2 s) ≤ (viaR2 s).length := spanL_le _ _
  have e3 : List.drop (wordL (viaR2 s)) (viaR2 s) = viaR3 s := rfl
  have m3 : (viaR3 s).length = (viaR2 s).length - wordL (viaR2 s) := by simp [viaR3]
  have l4 : spanL blankB (viaR3 s) ≤ (viaR3 s).length := spanL_le _ _
  have e4 : List.drop (spanL blankB (viaR3 s)) (viaR3 s) = viaCom s := rfl
  have m4 : (viaCom s).length = (viaR3 s).length - spanL blankB (viaR3 s) := by simp [viaCom]
  have ev : List.take (wordL s) s = viaVer s := rfl
  have eb : List.take (wordL (viaR2 s)) (viaR2 s) = viaBy s := rfl
  have mv : (viaVer s).length = min (wordL s) s.length := by simp [viaVer]
  have mb : (viaBy s).length = min (wordL (viaR2 s)) (viaR2 s).length := by simp [viaBy]
  simp only [e1, e2, e3, e4, ev, eb]
  have hgap : ((spanL blankB (viaR1 s) : Int) = 0) ↔ viaR1 s = viaR2 s := by
    constructor
    · intro h
      rw [viaR2, show spanL blankB (viaR1 s) = 0 by omega, List.drop_zero]
    · intro h
      have := m2
      rw [← h] at this
      by_cases g : (viaR1 s).length = 0 <;> omega
  have badE : viaErr s = 3 → AV.agg [AV.str [], AV.str [], AV.str []] = AV.agg [AV.str (viaHop s).fst, AV.str (viaHop s).snd.fst, AV.str (viaHop s).snd.snd] ∧ 3 = viaErr s := fun h => by
    rw [viaHop, if_neg (by omega)]; exact ⟨rfl, h.symm⟩
  have goodE : viaErr s = 0 → AV.agg [AV.str (viaVer s), AV.str (viaBy s), AV.str (viaCom s)] = AV.agg [AV.str (viaHop s).fst, AV.str (viaHop s).snd.fst, AV.str (viaHop s).snd.snd] ∧ 0 = viaErr s := fun h => by
    rw [viaHop, if_pos h]; exact ⟨rfl, h.symm⟩
  have hpos : ¬viaCom s = [] → 0 < (viaCom s).length := List.length_pos_iff.2
  have hby : byB (viaBy s) = (tokenS (viaBy s) || decide (hostErr (viaBy s) = 0)) := rfl
  refine ⟨fun h => ?_, fun h => ⟨by omega, by omega, by omega, by omega, by omega, by omega, by omega, by omega, by omega, by omega, fun _ _ => by omega, fun g => ?_, fun g1 g2 g3 => ?_⟩⟩
  · have e : viaErr s = 2 := by rw [viaErr, if_pos h]
    rw [viaHop, if_neg (by omega), e]; exact ⟨rfl, rfl⟩
  · refine badE ?_
    rw [viaErr, if_neg h, if_pos]
    rw [← Bool.not_eq_true, headB, Bool.and_eq_true, Bool.and_eq_true, decide_eq_true_eq, hby]
    rintro ⟨k1, k2, k3⟩
    rcases g with (g | g) | ⟨g, g'⟩
    · rw [k1] at g; cases g
    · exact k2 (hgap.1 g)
    · rw [g, decide_eq_false g'] at k3; cases k3
  · have hb : headB s = true := by
      rw [headB, Bool.and_eq_true, Bool.and_eq_true, decide_eq_true_eq, hby]
      refine ⟨g1, fun e => g2 (hgap.2 e), ?_⟩
      cases ht : tokenS (viaBy s) with
      | true => rfl
      | false => rw [ht] at g3; simpa using g3
    have hE : viaErr s = if viaR3 s = [] then 0 else if comB (viaCom s) = true then 0 else 3 := by
      rw [viaErr, if_neg h, if_neg (by rw [hb]; simp)]
    refine ⟨fun h3 => ?_, fun h3 => ⟨by omega, by omega, fun hc => by have := hpos hc; omega, ⟨fun _ _ => by omega, fun hc _ => by have := hpos hc; omega, fun _ k => .inr k⟩, fun g => ?_, fun c1 c2 c3 => ?_⟩⟩
    · have hcom : viaCom s = [] := by rw [viaCom, h3]; rfl
      have := goodE (by rw [hE, if_pos h3])
      rw [hcom] at this; exact this
    · refine badE ?_
      rw [hE, if_neg h3, if_neg]
      rw [comB, Bool.and_eq_true, decide_eq_true_eq, decide_eq_true_eq, ← behind_com]
      rintro ⟨k1, k2⟩
      rcases g with (g | g) | g
      · rw [g] at k1; revert k1; decide
      · exact g k1
      · exact g k2
    · refine goodE ?_
      rw [hE, if_neg h3, if_pos]
      rw [comB, Bool.and_eq_true, decide_eq_true_eq, decide_eq_true_eq, ← behind_com]
      exact ⟨c2, c3⟩
def tb_specParseR : List Blk → List AV → Option (List Blk × AV × Prop)
  | [], [.str s] => some ([], .tuple [enc_hop (viaHop s), .int .i64 (viaErr s)], (s.length ≤ 1000000))
  | _, _ => none
theorem tb_specParseR_ok : ∀ E args E' res p, tb_specParseR E args = some (E', res, p) → p → SpecE Tryz.prog 32 E args E' res := by
  intro E args E' res p h hp
  unfold tb_specParseR at h
  split at h
  · simp only [Option.some.injEq, Prod.mk.injEq] at h
    obtain ⟨rfl, rfl, rfl⟩ := h
    exact (specParseR _ hp)
  · cases h
def T_specAllR : Tbl := fun g E args => (addT (addT (addT nilT 20 Go.Proofs.Tryz.HdrR.tb_specCombined) 21 Go.Proofs.Tryz.Lists.tb_specSplitR) 32 Go.Proofs.Tryz.Via.tb_specParseR) g E args
theorem T_specAllR_ok : TblOK Tryz.prog T_specAllR := (addT_ok (addT_ok (addT_ok nilT_ok (by decide +kernel) Go.Proofs.Tryz.HdrR.tb_specCombined_ok) (by decide +kernel) Go.Proofs.Tryz.Lists.tb_specSplitR_ok) (by decide +kernel) Go.Proofs.Tryz.Via.tb_specParseR_ok)
set_option maxRecDepth 100000 in
set_option maxHeartbeats 4000000 in
theorem specAllR (l : List Fld) (hl : l.length ≤ 1000) (hf : ∀ f ∈ l, f.1.length ≤ 1000000) (hv : ∀ f ∈ l, f.2.length ≤ 900) : SpecE Tryz.prog 12 [] [enc_flds l] [] (enc_hops (viaAll l)) := by
  refine specF0 (C := T_specAllR) (wr := false) (D := fun _ => []) (U := fun _ => none) (res := [enc_hops (viaAll l)]) Tryz.Ty.mixed T_specAllR_ok Tryz.func12 (nA := 1) (by decide +kernel) rfl (fun _ => rfl) ?_
  simp only [Tryz.f12, bodyOf, rlOf]
  rw [W_V]
  simp (config := {maxSteps := 2000000}) only [T_specAllR, Go.Proofs.Tryz.HdrR.tb_specCombined, Go.Proofs.Tryz.Lists.tb_specSplitR, Go.Proofs.Tryz.Via.tb_specParseR, go_sem, seval]
  (try simp (config := {maxSteps := 2000000}) only [gimp, impB, isT, go_sem, seval])
  have hc := comb_le (n := nmVia) hl hv
  have hc' : (combS l [86, 105, 97]).length ≤ 1000000 := hc
  have hk1 := splitS_count (combS l [86, 105, 97])
  have hk2 : ∀ e ∈ splitS (combS l [86, 105, 97]), e.length ≤ 1000000 := fun e he => by have := (splitS_mem he).1; omega
  refine ⟨⟨hl, hf, fun f hf => by have := hv f hf; omega⟩, by omega, ?_⟩
  refine VL_inv (X := Nat) (fun k => ⟨[(7, .ref 352 0 (hopsS ((splitS (combS l [86, 105, 97])).take k)).length (hopsS ((splitS (combS l [86, 105, 97])).take k)).length), (5, enc_strs (splitS (combS l [86, 105, 97]))), (8, .int .i64 k)], [(352, .cells 3 false (.agg [.str [], .str [], .str []]) ((hopsS ((splitS (combS l [86, 105, 97])).take k)).map enc_hop))]⟩) (fun k => k ≤ (splitS (combS l [86, 105, 97])).length) (fun k => (splitS (combS l [86, 105, 97])).length - k) 0 ?_ ?_ ?_
  · simp only [List.take_zero, hopsS, List.filter_nil, List.map_nil, T_specAllR, Go.Proofs.Tryz.HdrR.tb_specCombined, Go.Proofs.Tryz.Lists.tb_specSplitR, Go.Proofs.Tryz.Via.tb_specParseR, go_sem, seval]
    try rfl
  · exact Nat.zero_le _
  rintro k hk
  simp (config := {maxSteps := 2000000}) only [T_specAllR, Go.Proofs.Tryz.HdrR.tb_specCombined, Go.Proofs.Tryz.Lists.tb_specSplitR, Go.Proofs.Tryz.Via.tb_specParseR, go_sem, seval]
  (try simp (config := {maxSteps := 2000000}) only [gimp, impB, isT, go_sem, seval])
  have hle := hops_len ((splitS (combS l [86, 105, 97])).take k)
  have hlt' : ((splitS (combS l [86, 105, 97])).take k).length ≤ 1000001 := by rw [List.length_take]; omega
  have hs := fun h : k < (splitS (combS l [86, 105, 97])).length => hops_take (l := splitS (combS l [86, 105, 97])) h
  refine ⟨fun hlt => ⟨by omega, hk2 _ (List.mem_of_getElem? (getD_of_lt (s := splitS (combS l [86, 105, 97])) (d := []) (by omega))), fun hy => ⟨by omega, by omega, k + 1, ⟨⟨?_, by omega⟩, ?_⟩, by omega, by omega⟩, fun hno => ⟨by omega, k + 1, ⟨⟨?_, by omega⟩, ?_⟩, by omega, by omega⟩⟩, fun hge => ?_⟩
  · rw [hs (by omega), if_pos hy]; simp
  · rw [hs (by omega), if_pos hy]; simp [enc_hop]
  · rw [hs (by omega), if_neg hno]; simp
  · rw [hs (by omega), if_neg hno]; simp
  · rw [List.take_length, List.take_of_length_le (by omega)]; rfl
def tb_specAllR : List Blk → List AV → Option (List Blk × AV × Prop)
  | [], [a0] => some ([], enc_hops (viaAll (dec_flds a0)), ((dec_flds a0).length ≤ 1000) ∧ (∀ f ∈ (dec_flds a0), f.1.length ≤ 1000000) ∧ (∀ f ∈ (dec_flds a0), f.2.length ≤ 900) ∧ argOK a0 (enc_flds (dec_flds a0)))
  | _, _ => none
theorem tb_specAllR_ok : ∀ E args E' res p, tb_specAllR E args = some (E', res, p) → p → SpecE Tryz.prog 12 E args E' res := by
  intro E args E' res p h hp
  unfold tb_specAllR at h
  split at h
  · simp only [Option.some.injEq, Prod.mk.injEq] at h
    obtain ⟨rfl, rfl, rfl⟩ := h
    exact SpecE.args (specAllR _ hp.1 hp.2.1 hp.2.2.1) (.cons hp.2.2.2 .nil)
  · cases h
def T_specLoopsR : Tbl := fun g E args => (addT (addT nilT 12 Go.Proofs.Tryz.Via.tb_specAllR) 23 Go.Proofs.Tryz.Oct.tb_specLowerR) g E args
theorem T_specLoopsR_ok : TblOK Tryz.prog T_specLoopsR := (addT_ok (addT_ok nilT_ok (by decide +kernel) Go.Proofs.Tryz.Via.tb_specAllR_ok) (by decide +kernel) Go.Proofs.Tryz.Oct.tb_specLowerR_ok)
set_option maxRecDepth 100000 in
set_option maxHeartbeats 4000000 in
theorem specLoopsR (l : List Fld) (n : List UInt8) (hl : l.length ≤ 1000) (hf : ∀ f ∈ l, f.1.length ≤ 1000000) (hv : ∀ f ∈ l, f.2.length ≤ 900) (hn : n.length ≤ 1000000) : SpecE Tryz.prog 14 [] [enc_flds l, .str n] [] (.bool (viaLoops l n)) := by
  refine specF0 (C := T_specLoopsR) (wr := false) (D := fun _ => []) (U := fun _ => none) (res := [.bool (viaLoops l n)]) Tryz.Ty.mixed T_specLoopsR_ok Tryz.func14 (nA := 2) (by decide +kernel) rfl (fun _ => rfl) ?_
  simp only [Tryz.f14, bodyOf, rlOf]
  rw [W_V]
  simp (config := {maxSteps := 2000000}) only [T_specLoopsR, Go.Proofs.Tryz.Via.tb_specAllR, Go.Proofs.Tryz.Oct.tb_specLowerR, go_sem, seval]
  (try simp (config := {maxSteps := 2000000}) only [gimp, impB, isT, go_sem, seval])
  have hc := comb_le (n := nmVia) hl hv
  have hk1 := splitS_count (combS l nmVia)
  have hk3 : (viaAll l).length ≤ (splitS (combS l nmVia)).length := hops_len _
  have hb : ∀ x ∈ viaAll l, x.2.1.length ≤ 1000000 := fun x hx => by
    obtain ⟨e, h1, -, rfl⟩ := hops_mem hx
    have h2 := (viaHop_len e).2.1
    have h3 := (splitS_mem h1).1
    omega
  refine ⟨⟨hl, hf, hv⟩, ?_⟩
  refine VL_inv (X := Nat) (fun k => ⟨[(1, .str n), (5, enc_hops (viaAll l)), (6, .bool (((viaAll l).take k).any fun h => foldS h.2.1 n)), (7, .int .i64 k)], []⟩) (fun k => k ≤ (viaAll l).length) (fun k => (viaAll l).length - k) 0 ?_ ?_ ?_
  · simp only [List.take_zero, List.any_nil, T_specLoopsR, Go.Proofs.Tryz.Via.tb_specAllR, Go.Proofs.Tryz.Oct.tb_specLowerR, go_sem, seval]
    try rfl
  · exact Nat.zero_le _
  rintro k hk
  simp (config := {maxSteps := 2000000}) only [T_specLoopsR, Go.Proofs.Tryz.Via.tb_specAllR, Go.Proofs.Tryz.Oct.tb_specLowerR, go_sem, seval]
  (try simp (config := {maxSteps := 2000000}) only [gimp, impB, isT, go_sem, seval])
  have hc2 : ∀ h : Hop, decide (lowerS h.2.1 = lowerS n) = foldS h.2.1 n := fun h => rfl
  refine ⟨fun hlt => ⟨⟨fun _ => by omega, fun _ => by omega⟩, fun _ => hb _ (List.mem_of_getElem? (getD_of_lt (s := viaAll l) (d := ([], [], [])) (by omega))), fun _ => hn, by omega, k + 1, ⟨?_, by omega⟩, by omega, by omega⟩, fun hge => ?_⟩
  · rw [take_succ_getD ([], [], []) (by omega), List.any_append]; simp [foldS]
  · rw [List.take_of_length_le (by omega)]; rfl
def tb_specLoopsR : List Blk → List AV → Option (List Blk × AV × Prop)
  | [], [a0, .str n] => some ([], .bool (viaLoops (dec_flds a0) n), ((dec_flds a0).length ≤ 1000) ∧ (∀ f ∈ (dec_flds a0), f.1.length ≤ 1000000) ∧ (∀ f ∈ (dec_flds a0), f.2.length ≤ 900) ∧ (n.length ≤ 1000000) ∧ argOK a0 (enc_flds (dec_flds a0)))
  | _, _ => none
theorem tb_specLoopsR_ok : ∀ E args E' res p, tb_specLoopsR E args = some (E', res, p) → p → SpecE Tryz.prog 14 E args E' res := by
  intro E args E' res p h hp
  unfold tb_specLoopsR at h
  split at h
  · simp only [Option.some.injEq, Prod.mk.injEq] at h
    obtain ⟨rfl, rfl, rfl⟩ := h
    exact SpecE.args (specLoopsR _ _ hp.1 hp.2.1 hp.2.2.1 hp.2.2.2.1) (.cons hp.2.2.2.2 (.cons (argOK.refl _) .nil))
  · cases h
def T_specAppendR : Tbl := fun g E args => (addT nilT 37 Go.Proofs.Tryz.HdrR.tb_specWith) g E args
theorem T_specAppendR_ok : TblOK Tryz.prog T_specAppendR := (addT_ok nilT_ok (by decide +kernel) Go.Proofs.Tryz.HdrR.tb_specWith_ok)
set_option maxRecDepth 100000 in
set_option maxHeartbeats 4000000 in
theorem specAppendR (l : List Fld) (m : Int) (n : List UInt8) (hl : l.length ≤ 1000) (hn : n.length ≤ 1000000) : SpecE Tryz.prog 17 [] [enc_flds l, .int .i64 m, .str n] [] (enc_flds (viaApp l m n)) := by
  refine specF0 (C := T_specAppendR) (wr := false) (D := fun _ => []) (U := fun _ => none) (res := [enc_flds (viaApp l m n)]) Tryz.Ty.mixed T_specAppendR_ok Tryz.func17 (nA := 3) (by decide +kernel) rfl (fun _ => rfl) ?_
  simp only [Tryz.f17, bodyOf, rlOf]
  rw [W_V]
  simp (config := {maxSteps := 2000000}) only [T_specAppendR, Go.Proofs.Tryz.HdrR.tb_specWith, go_sem, seval]
  (try simp (config := {maxSteps := 2000000}) only [gimp, impB, isT, go_sem, seval])
  refine ⟨fun h => ⟨by omega, by omega, ?_⟩, fun h => ⟨by omega, by omega, ?_⟩⟩
  · rw [List.take_length, viaApp, viaText, if_neg (by omega)]; simp [hopText, nmVia]
  · rw [List.take_length, viaApp, viaText, if_pos h]; simp [hopText, nmVia]
def tb_specAppendR : List Blk → List AV → Option (List Blk × AV × Prop)
  | [], [a0, .int .i64 m, .str n] => some ([], enc_flds (viaApp (dec_flds a0) m n), ((dec_flds a0).length ≤ 1000) ∧ (n.length ≤ 1000000) ∧ argOK a0 (enc_flds (dec_flds a0)))
  | _, _ => none
theorem tb_specAppendR_ok : ∀ E args E' res p, tb_specAppendR E args = some (E', res, p) → p → SpecE Tryz.prog 17 E args E' res := by
  intro E args E' res p h hp
  unfold tb_specAppendR at h
  split at h
  · simp only [Option.some.injEq, Prod.mk.injEq] at h
    obtain ⟨rfl, rfl, rfl⟩ := h
    exact SpecE.args (specAppendR _ _ _ hp.1 hp.2.1) (.cons hp.2.2 (.cons (argOK.refl _) (.cons (argOK.refl _) .nil)))
  · cases h
def T_specSameH : Tbl := fun g E args => nilT g E args
theorem T_specSameH_ok : TblOK Tryz.prog T_specSameH := nilT_ok
set_option maxRecDepth 100000 in
set_option maxHeartbeats 4000000 in
theorem specSameH (a b : List Hop) (ha : a.length ≤ 1000000) : SpecE Tryz.prog 10 [] [enc_hops a, enc_hops b] [] (.bool (decide (a = b))) := by
  refine specF0 (C := T_specSameH) (wr := false) (D := fun _ => []) (U := fun _ => none) (res := [.bool (decide (a = b))]) Tryz.Ty.mixed T_specSameH_ok Tryz.func10 (nA := 2) (by decide +kernel) rfl (fun _ => rfl) ?_
  simp only [Tryz.f10, bodyOf, rlOf]
  rw [W_V]
  simp (config := {maxSteps := 2000000}) only [T_specSameH, go_sem, seval]
  (try simp (config := {maxSteps := 2000000}) only [gimp, impB, isT, go_sem, seval])
  refine ⟨fun h => ?_, fun h => ?_⟩
  · rw [eq_comm, decide_eq_false_iff_not]
    rintro rfl; exact h rfl
  refine VL_inv (X := Nat) (fun k => ⟨[(0, enc_hops a), (1, enc_hops b), (5, .int .i64 k)], []⟩) (fun k => k ≤ a.length ∧ a.take k = b.take k) (fun k => a.length - k) 0 ?_ ?_ ?_
  · simp only [T_specSameH, go_sem, seval]
    try rfl
  · exact ⟨Nat.zero_le _, by simp⟩
  rintro k ⟨hk, he⟩
  simp (config := {maxSteps := 2000000}) only [T_specSameH, go_sem, seval]
  (try simp (config := {maxSteps := 2000000}) only [gimp, impB, isT, go_sem, seval])
  refine ⟨fun hlt => ⟨by omega, by omega, fun hn => ?_, fun h1 h2 h3 => ⟨by omega, k + 1, by omega, ⟨by omega, ?_⟩, by omega⟩⟩, fun hge => ?_⟩
  · rw [eq_comm, decide_eq_false_iff_not]
    rintro rfl
    simp at hn
  · rw [take_succ_getD ([], [], []) (by omega), take_succ_getD ([], [], []) (by omega), he]
    congr 2
    exact Prod.ext h1 (Prod.ext h2 h3)
  · rw [eq_comm, decide_eq_true_eq]
    rw [List.take_of_length_le (by omega), List.take_of_length_le (by omega)] at he
    exact he
def tb_specSameH : List Blk → List AV → Option (List Blk × AV × Prop)
  | [], [a0, a1] => some ([], .bool (decide ((dec_hops a0) = (dec_hops a1))), ((dec_hops a0).length ≤ 1000000) ∧ argOK a0 (enc_hops (dec_hops a0)) ∧ argOK a1 (enc_hops (dec_hops a1)))
  | _, _ => none
theorem tb_specSameH_ok : ∀ E args E' res p, tb_specSameH E args = some (E', res, p) → p → SpecE Tryz.prog 10 E args E' res := by
  intro E args E' res p h hp
  unfold tb_specSameH at h
  split at h
  · simp only [Option.some.injEq, Prod.mk.injEq] at h
    obtain ⟨rfl, rfl, rfl⟩ := h
    exact SpecE.args (specSameH _ _ hp.1) (.cons hp.2.1 (.cons hp.2.2 .nil))
  · cases h
end Go.Proofs.Tryz.Via
end
section
set_option linter.unusedVariables false
set_option linter.unusedSimpArgs false
namespace Go.Mdl
open Go Go.Abs
theorem span_stopV {p : UInt8 → Bool} {a r : List UInt8} {c : UInt8} (ha : a.all p = true) (hc : p c = false) : spanL p (a ++ c :: r) = a.length := by
  unfold spanL
  rw [List.takeWhile_append_of_pos (fun y hy => List.all_eq_true.1 ha y hy), List.takeWhile_cons_of_neg (by rw [hc]; simp)]
  simp
theorem com_ne {s : List UInt8} (h : comB s = true) : ∃ r, s = 40 :: r := by
  rw [comB, Bool.and_eq_true, decide_eq_true_eq] at h
  cases s with
  | nil => exact absurd h.1 (by decide)
  | cons a r => exact ⟨r, by rw [show a = 40 from h.1]⟩
theorem hop_back {v b c : List UInt8} (hv : v.all (fun c => !blankB c) = true) (hver : verB v = true) (hb : b.all (fun c => !blankB c) = true) (hby : byB b = true) (hc : c = [] ∨ comB c = true) :
    viaErr (hopText (v, b, c)) = 0 ∧ viaHop (hopText (v, b, c)) = (v, b, c) := by
  obtain ⟨k, hk⟩ : ∃ k, k = if c = [] then [] else 32 :: c := ⟨_, rfl⟩
  have ht : hopText (v, b, c) = v ++ 32 :: (b ++ k) := by rw [hk]; simp [hopText]
  rw [ht]
  obtain ⟨b0, b', rfl⟩ : ∃ b0 b', b = b0 :: b' := by
    cases b with
    | nil => exact absurd rfl (by_ne hby)
    | cons x y => exact ⟨x, y, rfl⟩
  have hb0 : blankB b0 = false := by
    simp only [List.all_cons, Bool.and_eq_true, Bool.not_eq_true'] at hb; exact hb.1
  have w1 : wordL (v ++ 32 :: (b0 :: b' ++ k)) = v.length := span_stopV hv (by decide)
  have r1 : viaR1 (v ++ 32 :: (b0 :: b' ++ k)) = 32 :: (b0 :: b' ++ k) := by rw [viaR1, w1, List.drop_left]
  have w2 : spanL blankB (32 :: (b0 :: b' ++ k)) = 1 := span_stopV (a := [32]) (r := b' ++ k) (by decide) hb0
  have r2 : viaR2 (v ++ 32 :: (b0 :: b' ++ k)) = b0 :: b' ++ k := by rw [viaR2, r1, w2]; rfl
  have w3 : wordL (b0 :: b' ++ k) = (b0 :: b').length := by
    rw [hk]
    by_cases e : c = []
    · rw [if_pos e, List.append_nil]; exact span_end hb
    · rw [if_neg e]; exact span_stopV hb (by decide)
  have r3 : viaR3 (v ++ 32 :: (b0 :: b' ++ k)) = k := by rw [viaR3, r2, w3, List.drop_left]
  have r4 : viaCom (v ++ 32 :: (b0 :: b' ++ k)) = c := by
    rw [viaCom, r3, hk]
    by_cases e : c = []
    · rw [if_pos e, e]; rfl
    · rw [if_neg e]
      rcases hc with hc | hc
      · exact absurd hc e
      · obtain ⟨r, rfl⟩ := com_ne hc
        rw [show spanL blankB (32 :: 40 :: r) = 1 from span_stopV (a := [32]) (by decide) (by decide)]; rfl
  have hV : viaVer (v ++ 32 :: (b0 :: b' ++ k)) = v := by rw [viaVer, w1, List.take_left]
  have hB : viaBy (v ++ 32 :: (b0 :: b' ++ k)) = b0 :: b' := by rw [viaBy, r2, w3, List.take_left]
  have he : viaErr (v ++ 32 :: (b0 :: b' ++ k)) = 0 := by
    have hh : headB (v ++ 32 :: (b0 :: b' ++ k)) = true := by
      rw [headB, hV, hB, r1, r2, hver, hby, decide_eq_true]
      · rfl
      · intro e
        have := congrArg List.length e
        simp at this
    rw [viaErr, if_neg (by simp), if_neg (by rw [hh]; simp), r3, r4]
    by_cases e : c = []
    · rw [hk, if_pos e, if_pos rfl]
    · rcases hc with hc | hc
      · exact absurd hc e
      · rw [hk, if_neg e, if_neg (by simp), if_pos hc]
  exact ⟨he, by rw [viaHop, if_pos he, hV, hB, r4]⟩
theorem via_back {s : List UInt8} (h : viaErr s = 0) : viaErr (hopText (viaHop s)) = 0 ∧ viaHop (hopText (viaHop s)) = viaHop s := by
  have e : viaHop s = (viaVer s, viaBy s, viaCom s) := by rw [viaHop, if_pos h]
  rw [e]
  unfold viaErr at h
  split at h
  · cases h
  split at h
  · cases h
  rename_i h2
  rw [Bool.not_eq_false, headB, Bool.and_eq_true, Bool.and_eq_true] at h2
  refine hop_back (span_take_all _ _) h2.1 (span_take_all _ _) h2.2.2 ?_
  split at h
  · rename_i h3
    left
    rw [viaCom, h3]; rfl
  · split at h
    · rename_i h4; exact .inr h4
    · cases h
theorem elems_cut : ∀ {v r cur : List UInt8} {x : Scan}, (x.run v).closed = true → elemsGo x cur (v ++ 44 :: r) = elemsGo x cur v ++ elemsGo scan0 [] r := by
  intro v
  induction v with
  | nil =>
    intro r cur x h
    have h' : x.closed = true := h
    have hx : x = scan0 := Scan.closed_iff.1 h'
    rw [List.nil_append, elemsGo_cons, if_pos ⟨rfl, h'⟩, hx]; rfl
  | cons c v ih =>
    intro r cur x h
    rw [List.cons_append, elemsGo_cons, elemsGo_cons]
    rw [Scan.run_cons] at h
    by_cases e : c = 44 ∧ x.closed = true
    · rw [if_pos e, if_pos e, List.cons_append]
      congr 1
      refine ih ?_
      have hx : x = scan0 := Scan.closed_iff.1 e.2
      rw [e.1, hx, see_top (by decide) (by decide)] at h
      rw [hx]; exact h
    · rw [if_neg e, if_neg e]
      exact ih h
theorem plain_run : ∀ {t : List UInt8}, (∀ c ∈ t, c ≠ 34 ∧ c ≠ 40 ∧ c ≠ 44) → scan0.run t = scan0 ∧ ∀ cur, elemsGo scan0 cur t = [cur ++ t] := by
  intro t
  induction t with
  | nil => intro _; exact ⟨rfl, fun cur => by rw [List.append_nil]; rfl⟩
  | cons c t ih =>
    intro h
    obtain ⟨h1, h2, h3⟩ := h c List.mem_cons_self
    have := ih fun d hd => h d (List.mem_cons_of_mem _ hd)
    refine ⟨by rw [Scan.run_cons, see_top h1 h2]; exact this.1, fun cur => ?_⟩
    rw [elemsGo_cons, if_neg (fun e => h3 e.1), see_top h1 h2, this.2, List.append_assoc]; rfl
theorem tchar_facts (c : UInt8) : tcharB c = true → c ≠ 34 ∧ c ≠ 40 ∧ c ≠ 44 ∧ blankB c = false := by
  revert c
  exact u8_forall (by decide +kernel)
theorem tail_text {m : Int} {n : List UInt8} (hn : tokenS n = true) : (∀ c ∈ viaText m n, c ≠ 34 ∧ c ≠ 40 ∧ c ≠ 44) ∧ trimS (viaText m n) = viaText m n ∧ viaText m n ≠ [] := by
  rw [tokenS, Bool.and_eq_true, Bool.not_eq_true', decide_eq_false_iff_not, List.all_eq_true] at hn
  obtain ⟨h1, h2⟩ := hn
  obtain ⟨d, hd, e⟩ : ∃ d : UInt8, (d = 48 ∨ d = 49) ∧ viaText m n = [49, 46, d, 32] ++ n := by
    unfold viaText
    split
    · exact ⟨48, .inl rfl, by simp [hopText]⟩
    · exact ⟨49, .inr rfl, by simp [hopText]⟩
  rw [e]
  refine ⟨fun c hc => ?_, ?_, by simp⟩
  · rcases List.mem_append.1 hc with hc | hc
    · simp only [List.mem_cons, List.not_mem_nil, or_false] at hc
      rcases hd with rfl | rfl <;> rcases hc with rfl | rfl | rfl | rfl <;> decide
    · have := tchar_facts c (h2 c hc)
      exact ⟨this.1, this.2.1, this.2.2.1⟩
  · have hl : trimL ([49, 46, d, 32] ++ n) = [49, 46, d, 32] ++ n := trimL_none (fun _ => by show blankB 49 = false; decide)
    have hp := List.length_pos_iff.2 h1
    have hr : trimR ([49, 46, d, 32] ++ n) = [49, 46, d, 32] ++ n := by
      refine trimR_none (fun _ => ?_)
      have e2 : ([49, 46, d, 32] ++ n).getD (([49, 46, d, 32] ++ n).length - 1) 0 = n.getD (n.length - 1) 0 := by
        rw [List.getD_eq_getElem?_getD, List.getElem?_append_right (by simp; omega), List.getD_eq_getElem?_getD]
        congr 2
        try (simp; done)
        try (simp; omega)
      rw [e2]
      exact (tchar_facts _ (h2 _ (List.mem_of_getElem? (getD_of_lt (s := n) (d := 0) (by omega))))).2.2.2
    rw [trimS, hl, hr]
theorem allS_withV (l : List Fld) (n v : List UInt8) : allS (withS l n v) n = allS l n ++ [v] := by
  simp only [allS, withS, List.filter_append, List.map_append]
  congr 1
  have h : isN [n] (n, v) = true := by rw [isN_one]; simp [foldS]
  rw [List.filter_cons_of_pos h]; rfl
theorem hops_append (a b : List (List UInt8)) : hopsS (a ++ b) = hopsS a ++ hopsS b := by simp [hopsS]
theorem all_app {l : List Fld} {m : Int} {n : List UInt8} (he : endsS (combS l nmVia) = true) (hn : tokenS n = true) : ∃ v, viaAll (viaApp l m n) = viaAll l ++ [(v, n, [])] := by
  obtain ⟨t1, t2, t3⟩ := tail_text (m := m) hn
  obtain ⟨p1, p2⟩ := plain_run t1
  have hs : splitS (combS (viaApp l m n) nmVia) = splitS (combS l nmVia) ++ [viaText m n] := by
    have e : combS (viaApp l m n) nmVia = if allS l nmVia = [] then viaText m n else combS l nmVia ++ 44 :: 32 :: viaText m n := by
      rw [combS, viaApp, allS_withV, joinS_snoc]; rfl
    rw [e]
    by_cases h0 : allS l nmVia = []
    · rw [if_pos h0]
      have e0 : combS l nmVia = [] := by rw [combS, h0]; rfl
      rw [e0, splitS, if_pos (by rw [endsS, p1]; rfl), elemsS, p2, List.nil_append, keepE_one, t2, if_neg t3]
      have : splitS [] = [] := by decide +kernel
      rw [this]; rfl
    · rw [if_neg h0]
      have hrun : scan0.run (combS l nmVia) = scan0 := Scan.closed_iff.1 he
      have hall : scan0.run (combS l nmVia ++ 44 :: 32 :: viaText m n) = scan0 := by
        rw [Scan.run_append, hrun, Scan.run_cons, see_top (by decide) (by decide), Scan.run_cons, see_top (by decide) (by decide), p1]
      rw [splitS, if_pos (by rw [endsS, hall]; rfl), splitS, if_pos he, elemsS, elems_cut he, keepE_append]
      congr 1
      rw [elemsGo_cons, if_neg (by decide), see_top (by decide) (by decide), List.nil_append, keep_lead (by decide), p2, List.nil_append, keepE_one, t2, if_neg t3]
  have hb : n.all (fun c => !blankB c) = true := by
    rw [List.all_eq_true]
    intro c hc
    have h2 := hn
    rw [tokenS, Bool.and_eq_true, List.all_eq_true] at h2
    rw [(tchar_facts c (h2.2 c hc)).2.2.2]; rfl
  have hby : byB n = true := by rw [byB, hn]; rfl
  have hh : ∃ v, viaErr (viaText m n) = 0 ∧ viaHop (viaText m n) = (v, n, []) := by
    unfold viaText
    split
    · exact ⟨_, hop_back (by decide) (by decide +kernel) hb hby (.inl rfl)⟩
    · exact ⟨_, hop_back (by decide) (by decide +kernel) hb hby (.inl rfl)⟩
  obtain ⟨v, v1, v2⟩ := hh
  refine ⟨v, ?_⟩
  rw [viaAll, hs, hops_append, ← v2]
  congr 1
  rw [hopsS, List.filter_cons_of_pos (by rw [v1]; rfl)]; rfl
theorem all_len {l : List Fld} (hfew : fewF l = true) : (viaAll l).length ≤ 1000000 := by
  obtain ⟨f1, f2⟩ := fewF_len hfew
  have h1 := allS_len l nmVia
  have hj := joinS_len (l := allS l nmVia) (m := 300) (fun e he => by obtain ⟨f, hf, rfl, _⟩ := allS_mem he; exact (f2 f hf).2)
  have hj2 : (joinS (allS l nmVia)).length ≤ 40 * (300 + 2) := Nat.le_trans hj (Nat.mul_le_mul (by omega) (Nat.le_refl _))
  have hk1 := splitS_count (combS l nmVia)
  have hk3 : (viaAll l).length ≤ (splitS (combS l nmVia)).length := hops_len _
  have : (combS l nmVia).length ≤ 40 * (300 + 2) := hj2
  omega
theorem lower_twice (s : List UInt8) : lowerS (lowerS s) = lowerS s := by
  have h : ∀ c : UInt8, lowerB (lowerB c) = lowerB c := u8_forall (by decide +kernel)
  simp only [lowerS, List.map_map]
  exact List.map_congr_left fun c _ => h c
theorem loops_app {l : List Fld} {m : Int} {n : List UInt8} (he : endsS (combS l nmVia) = true) (hn : tokenS n = true) : viaLoops (viaApp l m n) (lowerS n) = true := by
  obtain ⟨v, h⟩ := all_app (m := m) he hn
  rw [viaLoops, h, List.any_append]
  simp [foldS, lower_twice]
theorem len_app {l : List Fld} {m : Int} {n : List UInt8} (he : endsS (combS l nmVia) = true) (hn : tokenS n = true) : (viaAll (viaApp l m n)).length = (viaAll l).length + 1 := by
  obtain ⟨v, h⟩ := all_app (m := m) he hn
  rw [h, List.length_append]; rfl
end Go.Mdl
namespace Go.Proofs.Tryz.Via
open Go Go.Abs Go.Proofs Go.Mdl
def T_specLives : Tbl := fun g E args => (addT (addT (addT nilT 11 Go.Proofs.Tryz.Via.tb_specAll) 10 Go.Proofs.Tryz.Via.tb_specSameH) 19 Go.Proofs.Tryz.Via.tb_specText) g E args
theorem T_specLives_ok : TblOK Tryz.prog T_specLives := (addT_ok (addT_ok (addT_ok nilT_ok (by decide +kernel) Go.Proofs.Tryz.Via.tb_specAll_ok) (by decide +kernel) Go.Proofs.Tryz.Via.tb_specSameH_ok) (by decide +kernel) Go.Proofs.Tryz.Via.tb_specText_ok)
set_option maxRecDepth 100000 in
set_option maxHeartbeats 4000000 in
theorem specLives : SpecE Tryz.prog 9 [] [] [] (.bool true) := by
  refine specF0 (C := T_specLives) (wr := false) (D := fun _ => []) (U := fun _ => none) (res := [.bool true]) Tryz.Ty.mixed T_specLives_ok Tryz.func9 (nA := 0) (by decide +kernel) rfl (fun _ => rfl) ?_
  simp only [Tryz.f9, bodyOf, rlOf]
  rw [W_V]
  simp (config := {maxSteps := 2000000}) only [T_specLives, Go.Proofs.Tryz.Via.tb_specAll, Go.Proofs.Tryz.Via.tb_specSameH, Go.Proofs.Tryz.Via.tb_specText, go_sem, seval, dec_fld]
  (try simp (config := {maxSteps := 2000000}) only [gimp, impB, isT, go_sem, seval])
  have h1 : (viaAll [([86, 105, 97], [49, 46, 48, 32, 97, 44, 32, 72, 84, 84, 80, 47, 49, 46, 49, 32, 98, 32, 40, 99, 44, 32, 100, 41])]) = [([49, 46, 48], [97], []), ([72, 84, 84, 80, 47, 49, 46, 49], [98], [40, 99, 44, 32, 100, 41])] := by decide +kernel
  rw [h1]
  exact ⟨⟨by decide, rfl⟩, rfl, by decide +kernel⟩
def tb_specLives : List Blk → List AV → Option (List Blk × AV × Prop)
  | [], [] => some ([], .bool true, True)
  | _, _ => none
theorem tb_specLives_ok : ∀ E args E' res p, tb_specLives E args = some (E', res, p) → p → SpecE Tryz.prog 9 E args E' res := by
  intro E args E' res p h hp
  unfold tb_specLives at h
  split at h
  · simp only [Option.some.injEq, Prod.mk.injEq] at h
    obtain ⟨rfl, rfl, rfl⟩ := h
    exact specLives
  · cases h
def T_specLawLoops : Tbl := fun g E args => (addT (addT (addT (addT (addT (addT (addT (addT (addT (addT nilT 8 Go.Proofs.Tryz.HdrR.tb_specFew) 11 Go.Proofs.Tryz.Via.tb_specAll) 12 Go.Proofs.Tryz.Via.tb_specAllR) 10 Go.Proofs.Tryz.Via.tb_specSameH) 13 Go.Proofs.Tryz.Via.tb_specLoops) 14 Go.Proofs.Tryz.Via.tb_specLoopsR) 16 Go.Proofs.Tryz.Via.tb_specAppend) 17 Go.Proofs.Tryz.Via.tb_specAppendR) 15 Go.Proofs.Tryz.HdrR.tb_specSameF) 9 Go.Proofs.Tryz.Via.tb_specLives) g E args
theorem T_specLawLoops_ok : TblOK Tryz.prog T_specLawLoops := (addT_ok (addT_ok (addT_ok (addT_ok (addT_ok (addT_ok (addT_ok (addT_ok (addT_ok (addT_ok nilT_ok (by decide +kernel) Go.Proofs.Tryz.HdrR.tb_specFew_ok) (by decide +kernel) Go.Proofs.Tryz.Via.tb_specAll_ok) (by decide +kernel) Go.Proofs.Tryz.Via.tb_specAllR_ok) (by decide +kernel) Go.Proofs.Tryz.Via.tb_specSameH_ok) (by decide +kernel) Go.Proofs.Tryz.Via.tb_specLoops_ok) (by decide +kernel) Go.Proofs.Tryz.Via.tb_specLoopsR_ok) (by decide +kernel) Go.Proofs.Tryz.Via.tb_specAppend_ok) (by decide +kernel) Go.Proofs.Tryz.Via.tb_specAppendR_ok) (by decide +kernel) Go.Proofs.Tryz.HdrR.tb_specSameF_ok) (by decide +kernel) Go.Proofs.Tryz.Via.tb_specLives_ok)
set_option maxRecDepth 100000 in
set_option maxHeartbeats 4000000 in
theorem specLawLoops (l : List Fld) (minor : Int) (n : List UInt8) (hl : l.length ≤ maxLen) (hm : inR .i64 minor) (hn : n.length ≤ maxLen) : SpecE Tryz.prog 3 [] [enc_flds l, .int .i64 minor, .str n] [] (.bool true) := by
  refine specF0 (C := T_specLawLoops) (wr := false) (D := fun _ => []) (U := fun _ => none) (res := [.bool true]) Tryz.Ty.mixed T_specLawLoops_ok Tryz.func3 (nA := 3) (by decide +kernel) rfl (fun _ => rfl) ?_
  simp only [Tryz.f3, bodyOf, rlOf]
  rw [W_V]
  simp (config := {maxSteps := 2000000}) only [T_specLawLoops, Go.Proofs.Tryz.HdrR.tb_specFew, Go.Proofs.Tryz.Via.tb_specAll, Go.Proofs.Tryz.Via.tb_specAllR, Go.Proofs.Tryz.Via.tb_specSameH, Go.Proofs.Tryz.Via.tb_specLoops, Go.Proofs.Tryz.Via.tb_specLoopsR, Go.Proofs.Tryz.Via.tb_specAppend, Go.Proofs.Tryz.Via.tb_specAppendR, Go.Proofs.Tryz.HdrR.tb_specSameF, Go.Proofs.Tryz.Via.tb_specLives, go_sem, seval]
  (try simp (config := {maxSteps := 2000000}) only [gimp, impB, isT, go_sem, seval])
  refine ⟨hl, fun hfew hnm => ?_⟩
  obtain ⟨f1, f2⟩ := fewF_len hfew
  have hq : ∀ f ∈ l, f.2.length ≤ 900 := fun f h => by have := (f2 f h).2; omega
  have hf : ∀ f ∈ l, f.1.length ≤ 1000000 := fun f h => by have := (f2 f h).1; omega
  have hc := comb_le (n := nmVia) (l := l) (by omega) hq
  have hk1 := splitS_count (combS l nmVia)
  have hk3 : (viaAll l).length ≤ (splitS (combS l nmVia)).length := hops_len _
  have hk4 : (viaApp l minor n).length = l.length + 1 := by simp [viaApp, withS]
  have hk5 := all_len hfew
  exact ⟨⟨by omega, hq⟩, ⟨by omega, hf, hq⟩, hk5, ⟨by omega, hq⟩, ⟨by omega, hf, hq, by omega⟩, ⟨by omega, by omega⟩, ⟨by omega, by omega⟩, by omega⟩
def T_specLawBack : Tbl := fun g E args => (addT (addT (addT (addT (addT (addT (addT (addT (addT (addT (addT nilT 8 Go.Proofs.Tryz.HdrR.tb_specFew) 18 Go.Proofs.Tryz.Via.tb_specParse) 19 Go.Proofs.Tryz.Via.tb_specText) 20 Go.Proofs.Tryz.HdrR.tb_specCombined) 21 Go.Proofs.Tryz.Lists.tb_specSplitR) 22 Go.Proofs.Tryz.Oct.tb_specTokenR) 16 Go.Proofs.Tryz.Via.tb_specAppend) 13 Go.Proofs.Tryz.Via.tb_specLoops) 23 Go.Proofs.Tryz.Oct.tb_specLowerR) 11 Go.Proofs.Tryz.Via.tb_specAll) 9 Go.Proofs.Tryz.Via.tb_specLives) g E args
theorem T_specLawBack_ok : TblOK Tryz.prog T_specLawBack := (addT_ok (addT_ok (addT_ok (addT_ok (addT_ok (addT_ok (addT_ok (addT_ok (addT_ok (addT_ok (addT_ok nilT_ok (by decide +kernel) Go.Proofs.Tryz.HdrR.tb_specFew_ok) (by decide +kernel) Go.Proofs.Tryz.Via.tb_specParse_ok) (by decide +kernel) Go.Proofs.Tryz.Via.tb_specText_ok) (by decide +kernel) Go.Proofs.Tryz.HdrR.tb_specCombined_ok) (by decide +kernel) Go.Proofs.Tryz.Lists.tb_specSplitR_ok) (by decide +kernel) Go.Proofs.Tryz.Oct.tb_specTokenR_ok) (by decide +kernel) Go.Proofs.Tryz.Via.tb_specAppend_ok) (by decide +kernel) Go.Proofs.Tryz.Via.tb_specLoops_ok) (by decide +kernel) Go.Proofs.Tryz.Oct.tb_specLowerR_ok) (by decide +kernel) Go.Proofs.Tryz.Via.tb_specAll_ok) (by decide +kernel) Go.Proofs.Tryz.Via.tb_specLives_ok)
set_option maxRecDepth 100000 in
set_option maxHeartbeats 4000000 in
theorem specLawBack (s : List UInt8) (l : List Fld) (n : List UInt8) (hs : s.length ≤ maxLen) (hl : l.length ≤ maxLen) (hn : n.length ≤ maxLen) : SpecE Tryz.prog 4 [] [.str s, enc_flds l, .str n] [] (.bool true) := by
  refine specF0 (C := T_specLawBack) (wr := false) (D := fun _ => []) (U := fun _ => none) (res := [.bool true]) Tryz.Ty.mixed T_specLawBack_ok Tryz.func4 (nA := 3) (by decide +kernel) rfl (fun _ => rfl) ?_
  simp only [Tryz.f4, bodyOf, rlOf]
  rw [W_V]
  simp (config := {maxSteps := 2000000}) only [T_specLawBack, Go.Proofs.Tryz.HdrR.tb_specFew, Go.Proofs.Tryz.Via.tb_specParse, Go.Proofs.Tryz.Via.tb_specText, Go.Proofs.Tryz.HdrR.tb_specCombined, Go.Proofs.Tryz.Lists.tb_specSplitR, Go.Proofs.Tryz.Oct.tb_specTokenR, Go.Proofs.Tryz.Via.tb_specAppend, Go.Proofs.Tryz.Via.tb_specLoops, Go.Proofs.Tryz.Oct.tb_specLowerR, Go.Proofs.Tryz.Via.tb_specAll, Go.Proofs.Tryz.Via.tb_specLives, go_sem, seval]
  (try simp (config := {maxSteps := 2000000}) only [gimp, impB, isT, go_sem, seval])
  refine ⟨hl, fun hfew hnm => ?_⟩
  obtain ⟨f1, f2⟩ := fewF_len hfew
  have hq : ∀ f ∈ l, f.2.length ≤ 900 := fun f h => by have := (f2 f h).2; omega
  have hf : ∀ f ∈ l, f.1.length ≤ 1000000 := fun f h => by have := (f2 f h).1; omega
  have hc : (combS l [86, 105, 97]).length ≤ 1000000 := comb_le (n := nmVia) (l := l) (by omega) hq
  have hs5 : (s.take 500).length ≤ 500 := by rw [List.length_take]; omega
  generalize s.take 500 = u at *
  obtain ⟨l1, l2, l3⟩ := viaHop_len u
  have hk5 := all_len hfew
  have happ : ∀ m, (viaApp l m n).length = l.length + 1 := fun m => by simp [viaApp, withS]
  have happ2 : ∀ m, ∀ f ∈ viaApp l m n, f.2.length ≤ 900 := fun m f h => by
    simp only [viaApp, withS, List.mem_append, List.mem_singleton] at h
    rcases h with h | rfl
    · exact hq f h
    · have : (viaText m n).length ≤ n.length + 4 := by unfold viaText; split <;> simp [hopText]
      show (viaText m n).length ≤ 900
      omega
  have hlo : (lowerS n).length = n.length := lowerS_len n
  have hlen : (hopText ((viaHop u).1, (viaHop u).2.1, (viaHop u).2.2)).length ≤ 1502 := by
    simp only [hopText, List.length_append, List.length_cons]
    split <;> simp <;> omega
  refine ⟨by omega, fun h => ⟨⟨by omega, by omega, by omega⟩, by omega, fun hno => ?_, fun _ _ _ _ => ?_⟩, fun _ => ?_⟩
  · have hb := via_back h
    have e : ((viaHop u).1, (viaHop u).2.1, (viaHop u).2.2) = viaHop u := rfl
    rw [e, hb.2] at hno
    rcases hno with hno | hno
    · simp at hno
    · exact hno hb.1
  all_goals exact ⟨⟨by omega, hf, fun f h => by have := hq f h; omega⟩, by omega, fun _ => by omega, fun he ht => ⟨⟨by omega, by omega⟩, by omega, ⟨by rw [happ]; omega, happ2 0⟩, ⟨fun _ => by omega, fun _ => by omega⟩, ⟨fun _ => by rw [happ]; omega, fun _ => happ2 1⟩, ⟨fun _ => by omega, fun _ => hq⟩, ⟨fun _ => by omega, fun _ => by omega⟩, loops_app he ht, by rw [len_app (m := 1) he ht]; omega⟩⟩
end Go.Proofs.Tryz.Via
end
