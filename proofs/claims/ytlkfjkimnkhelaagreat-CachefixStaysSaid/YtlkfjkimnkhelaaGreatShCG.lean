import Derived.Test.YtlkfjkimnkhelaaGreatShCF
import Derived.Test.YtlkfjkimnkhelaaGreatRows
import Derived.JoinedOf
import Derived.KernelRfl
import Derived.Shelf.Strings.Builder1
import Derived.Shelf.Strings.Builder2
import Derived.Shelf.Strings.OnBuilder
import Derived.Shelf.Small.Utf8
import Derived.Shelf.Small.Strs
import Derived.Shelf.Small.Wraps
import Derived.Shelf.Strings.BuilderF
import Derived.Shelf.Strings.BuilderK
import Derived.Shelf.Strings.Builder2Cap
import Derived.Shelf.Strings.Search1
import Derived.Shelf.Strings.Search2
import Derived.Shelf.Strings.Cut
import Derived.Shelf.LaysM
import Derived.Shelf.Strings.Shaped
import Derived.Shelf.Strings.LastIndex
import Derived.Shelf.Strings.Prefix
import Derived.Shelf.Strings.Runes
import Derived.Shelf.Strings.IndexAny
import Derived.Shelf.Strings.AsciiSet
import Derived.Shelf.Strings.IndexAnyAll
import Derived.Shelf.Bits.Mul64
import Derived.Shelf.Strings.Repeat
import Derived.Shelf.Strings.BuilderCap
import Derived.Ground.PaProg
import Derived.Shelf.Path.Small
import Derived.Test.YtlkfjkimnkhelaaGreatProg
section
set_option linter.unusedVariables false
set_option maxRecDepth 100000
namespace Go.Proofs.YtlkfjkimnkhelaaGreat.Facts
open Go Go.Proofs
theorem andT {a b : Bool} (ha : a = true) (hb : b = true) : (a && b) = true := by rw [ha, hb]; rfl
theorem init : Tryz.pinned.checked.prog.initOrder.toList = [Char.ofNat 104, Char.ofNat 97, Char.ofNat 114, Char.ofNat 110, Char.ofNat 101, Char.ofNat 115, Char.ofNat 115, Char.ofNat 32, Char.ofNat 49, Char.ofNat 48, Char.ofNat 98, Char.ofNat 53, Char.ofNat 48, Char.ofNat 55, Char.ofNat 52, Char.ofNat 98, Char.ofNat 99, Char.ofNat 51, Char.ofNat 52, Char.ofNat 101, Char.ofNat 55, Char.ofNat 101, Char.ofNat 56, Char.ofNat 48, Char.ofNat 50, Char.ofNat 53, Char.ofNat 55, Char.ofNat 97, Char.ofNat 51, Char.ofNat 50, Char.ofNat 98, Char.ofNat 56, Char.ofNat 51, Char.ofNat 51, Char.ofNat 102, Char.ofNat 56, Char.ofNat 98, Char.ofNat 57, Char.ofNat 100, Char.ofNat 98, Char.ofNat 102, Char.ofNat 52, Char.ofNat 55, Char.ofNat 53, Char.ofNat 54, Char.ofNat 97, Char.ofNat 49, Char.ofNat 101, Char.ofNat 56, Char.ofNat 50, Char.ofNat 54, Char.ofNat 52, Char.ofNat 56, Char.ofNat 50, Char.ofNat 101, Char.ofNat 52, Char.ofNat 50, Char.ofNat 48, Char.ofNat 102, Char.ofNat 102, Char.ofNat 57, Char.ofNat 97, Char.ofNat 98, Char.ofNat 102, Char.ofNat 49, Char.ofNat 53, Char.ofNat 101, Char.ofNat 97, Char.ofNat 53, Char.ofNat 55, Char.ofNat 100, Char.ofNat 49, Char.ofNat 32, Char.ofNat 99, Char.ofNat 117, Char.ofNat 116, Char.ofNat 32, Char.ofNat 97, Char.ofNat 116, Char.ofNat 32, Char.ofNat 97, Char.ofNat 98, Char.ofNat 117, Char.ofNat 116, Char.ofNat 109, Char.ofNat 101, Char.ofNat 110, Char.ofNat 116, Char.ofNat 47, Char.ofNat 97, Char.ofNat 98, Char.ofNat 117, Char.ofNat 116, Char.ofNat 109, Char.ofNat 101, Char.ofNat 110, Char.ofNat 116, Char.ofNat 108, Char.ofNat 97, Char.ofNat 119, Char.ofNat 50, Char.ofNat 48, Char.ofNat 46, Char.ofNat 86, Char.ofNat 105, Char.ofNat 97, Char.ofNat 76, Char.ofNat 111, Char.ofNat 111, Char.ofNat 112, Char.ofNat 115, Char.ofNat 32, Char.ofNat 97, Char.ofNat 98, Char.ofNat 117, Char.ofNat 116, Char.ofNat 109, Char.ofNat 101, Char.ofNat 110, Char.ofNat 116, Char.ofNat 47, Char.ofNat 97, Char.ofNat 98, Char.ofNat 117, Char.ofNat 116, Char.ofNat 109, Char.ofNat 101, Char.ofNat 110, Char.ofNat 116, Char.ofNat 108, Char.ofNat 97, Char.ofNat 119, Char.ofNat 50, Char.ofNat 48, Char.ofNat 46, Char.ofNat 86, Char.ofNat 105, Char.ofNat 97, Char.ofNat 66, Char.ofNat 97, Char.ofNat 99, Char.ofNat 107, Char.ofNat 32, Char.ofNat 97, Char.ofNat 98, Char.ofNat 117, Char.ofNat 116, Char.ofNat 109, Char.ofNat 101, Char.ofNat 110, Char.ofNat 116, Char.ofNat 47, Char.ofNat 97, Char.ofNat 98, Char.ofNat 117, Char.ofNat 116, Char.ofNat 109, Char.ofNat 101, Char.ofNat 110, Char.ofNat 116, Char.ofNat 108, Char.ofNat 97, Char.ofNat 119, Char.ofNat 51, Char.ofNat 49, Char.ofNat 46, Char.ofNat 67, Char.ofNat 97, Char.ofNat 99, Char.ofNat 104, Char.ofNat 101, Char.ofNat 102, Char.ofNat 105, Char.ofNat 120, Char.ofNat 82, Char.ofNat 101, Char.ofNat 113, Char.ofNat 117, Char.ofNat 101, Char.ofNat 115, Char.ofNat 116, Char.ofNat 115, Char.ofNat 32, Char.ofNat 97, Char.ofNat 98, Char.ofNat 117, Char.ofNat 116, Char.ofNat 109, Char.ofNat 101, Char.ofNat 110, Char.ofNat 116, Char.ofNat 47, Char.ofNat 97, Char.ofNat 98, Char.ofNat 117, Char.ofNat 116, Char.ofNat 109, Char.ofNat 101, Char.ofNat 110, Char.ofNat 116, Char.ofNat 108, Char.ofNat 97, Char.ofNat 119, Char.ofNat 51, Char.ofNat 49, Char.ofNat 46, Char.ofNat 67, Char.ofNat 97, Char.ofNat 99, Char.ofNat 104, Char.ofNat 101, Char.ofNat 102, Char.ofNat 105, Char.ofNat 120, Char.ofNat 82, Char.ofNat 101, Char.ofNat 115, Char.ofNat 112, Char.ofNat 111, Char.ofNat 110, Char.ofNat 115, Char.ofNat 101, Char.ofNat 115, Char.ofNat 32, Char.ofNat 97, Char.ofNat 98, Char.ofNat 117, Char.ofNat 116, Char.ofNat 109, Char.ofNat 101, Char.ofNat 110, Char.ofNat 116, Char.ofNat 47, Char.ofNat 97, Char.ofNat 98, Char.ofNat 117, Char.ofNat 116, Char.ofNat 109, Char.ofNat 101, Char.ofNat 110, Char.ofNat 116, Char.ofNat 108, Char.ofNat 97, Char.ofNat 119, Char.ofNat 51, Char.ofNat 49, Char.ofNat 46, Char.ofNat 67, Char.ofNat 97, Char.ofNat 99, Char.ofNat 104, Char.ofNat 101, Char.ofNat 102, Char.ofNat 105, Char.ofNat 120, Char.ofNat 83, Char.ofNat 116, Char.ofNat 97, Char.ofNat 121, Char.ofNat 115] := by
  have e : Tryz.pinned.checked.prog.initOrder = String.ofList [Char.ofNat 104, Char.ofNat 97, Char.ofNat 114, Char.ofNat 110, Char.ofNat 101, Char.ofNat 115, Char.ofNat 115, Char.ofNat 32, Char.ofNat 49, Char.ofNat 48, Char.ofNat 98, Char.ofNat 53, Char.ofNat 48, Char.ofNat 55, Char.ofNat 52, Char.ofNat 98, Char.ofNat 99, Char.ofNat 51, Char.ofNat 52, Char.ofNat 101, Char.ofNat 55, Char.ofNat 101, Char.ofNat 56, Char.ofNat 48, Char.ofNat 50, Char.ofNat 53, Char.ofNat 55, Char.ofNat 97, Char.ofNat 51, Char.ofNat 50, Char.ofNat 98, Char.ofNat 56, Char.ofNat 51, Char.ofNat 51, Char.ofNat 102, Char.ofNat 56, Char.ofNat 98, Char.ofNat 57, Char.ofNat 100, Char.ofNat 98, Char.ofNat 102, Char.ofNat 52, Char.ofNat 55, Char.ofNat 53, Char.ofNat 54, Char.ofNat 97, Char.ofNat 49, Char.ofNat 101, Char.ofNat 56, Char.ofNat 50, Char.ofNat 54, Char.ofNat 52, Char.ofNat 56, Char.ofNat 50, Char.ofNat 101, Char.ofNat 52, Char.ofNat 50, Char.ofNat 48, Char.ofNat 102, Char.ofNat 102, Char.ofNat 57, Char.ofNat 97, Char.ofNat 98, Char.ofNat 102, Char.ofNat 49, Char.ofNat 53, Char.ofNat 101, Char.ofNat 97, Char.ofNat 53, Char.ofNat 55, Char.ofNat 100, Char.ofNat 49, Char.ofNat 32, Char.ofNat 99, Char.ofNat 117, Char.ofNat 116, Char.ofNat 32, Char.ofNat 97, Char.ofNat 116, Char.ofNat 32, Char.ofNat 97, Char.ofNat 98, Char.ofNat 117, Char.ofNat 116, Char.ofNat 109, Char.ofNat 101, Char.ofNat 110, Char.ofNat 116, Char.ofNat 47, Char.ofNat 97, Char.ofNat 98, Char.ofNat 117, Char.ofNat 116, Char.ofNat 109, Char.ofNat 101, Char.ofNat 110, Char.ofNat 116, Char.ofNat 108, Char.ofNat 97, Char.ofNat 119, Char.ofNat 50, Char.ofNat 48, Char.ofNat 46, Char.ofNat 86, Char.ofNat 105, Char.ofNat 97, Char.ofNat 76, Char.ofNat 111, Char.ofNat 111, Char.ofNat 112, Char.ofNat 115, Char.ofNat 32, Char.ofNat 97, Char.ofNat 98, Char.ofNat 117, Char.ofNat 116, Char.ofNat 109, Char.ofNat 101, Char.ofNat 110, Char.ofNat 116, Char.ofNat 47, Char.ofNat 97, Char.ofNat 98, Char.ofNat 117, Char.ofNat 116, Char.ofNat 109, Char.ofNat 101, Char.ofNat 110, Char.ofNat 116, Char.ofNat 108, Char.ofNat 97, Char.ofNat 119, Char.ofNat 50, Char.ofNat 48, Char.ofNat 46, Char.ofNat 86, Char.ofNat 105, Char.ofNat 97, Char.ofNat 66, Char.ofNat 97, Char.ofNat 99, Char.ofNat 107, Char.ofNat 32, Char.ofNat 97, Char.ofNat 98, Char.ofNat 117, Char.ofNat 116, Char.ofNat 109, Char.ofNat 101, Char.ofNat 110, Char.ofNat 116, Char.ofNat 47, Char.ofNat 97, Char.ofNat 98, Char.ofNat 117, Char.ofNat 116, Char.ofNat 109, Char.ofNat 101, Char.ofNat 110, Char.ofNat 116, Char.ofNat 108, Char.ofNat 97, Char.ofNat 119, Char.ofNat 51, Char.ofNat 49, Char.ofNat 46, Char.ofNat 67, Char.ofNat 97, Char.ofNat 99, Char.ofNat 104, Char.ofNat 101, Char.ofNat 102, Char.ofNat 105, Char.ofNat 120, Char.ofNat 82, Char.ofNat 101, Char.ofNat 113, Char.ofNat 117, Char.ofNat 101, Char.ofNat 115, Char.ofNat 116, Char.ofNat 115, Char.ofNat 32, Char.ofNat 97, Char.ofNat 98, Char.ofNat 117, Char.ofNat 116, Char.ofNat 109, Char.ofNat 101, Char.ofNat 110, Char.ofNat 116, Char.ofNat 47, Char.ofNat 97, Char.ofNat 98, Char.ofNat 117, Char.ofNat 116, Char.ofNat 109, Char.ofNat 101, Char.ofNat 110, Char.ofNat 116, Char.ofNat 108, Char.ofNat 97, Char.ofNat 119, Char.ofNat 51, Char.ofNat 49, Char.ofNat 46, Char.ofNat 67, Char.ofNat 97, Char.ofNat 99, Char.ofNat 104, Char.ofNat 101, Char.ofNat 102, Char.ofNat 105, Char.ofNat 120, Char.ofNat 82, Char.ofNat 101, Char.ofNat 115, Char.ofNat 112, Char.ofNat 111, Char.ofNat 110, Char.ofNat 115, Char.ofNat 101, Char.ofNat 115, Char.ofNat 32, Char.ofNat 97, Char.ofNat 98, Char.ofNat 117, Char.ofNat 116, Char.ofNat 109, Char.ofNat 101, Char.ofNat 110, Char.ofNat 116, Char.ofNat 47, Char.ofNat 97, Char.ofNat 98, Char.ofNat 117, Char.ofNat 116, Char.ofNat 109, Char.ofNat 101, Char.ofNat 110, Char.ofNat 116, Char.ofNat 108, Char.ofNat 97, Char.ofNat 119, Char.ofNat 51, Char.ofNat 49, Char.ofNat 46, Char.ofNat 67, Char.ofNat 97, Char.ofNat 99, Char.ofNat 104, Char.ofNat 101, Char.ofNat 102, Char.ofNat 105, Char.ofNat 120, Char.ofNat 83, Char.ofNat 116, Char.ofNat 97, Char.ofNat 121, Char.ofNat 115] := by kernel_rfl
  rw [e, String.toList_ofList]
theorem strip (rest : List (List Char)) : stripLifts liftWords ("cut".toList :: rest) = ([], "cut".toList :: rest) := by kernel_rfl
theorem mayOf {P : Program} {rest : List (List Char)} (h : behindMainWord (wordsSigns P.initOrder.toList) = "cut".toList :: rest) (a : P.laysLater = false) (b : P.bearsReflect = false) (d : P.doorFits [] = true) : P.mayEnter = true := by
  have e1 : ("cut".toList == "gc".toList) = false := by kernel_rfl
  have e2 : ("cut".toList == "spec".toList) = false := by kernel_rfl
  have e3 : ("cut".toList == "carried".toList) = false := by kernel_rfl
  have e4 : (some "cut".toList == some "cut".toList) = true := by kernel_rfl
  unfold Program.mayEnter
  rw [h]
  show ((("cut".toList == "gc".toList) || ("cut".toList == "spec".toList)) && _ || _ || _) = true
  rw [e1, e2, e3, strip]
  simp only [a, b, d, List.head?_cons, e4, Bool.or_false, Bool.false_and, Bool.not_false, Bool.or_true, Bool.and_true, List.contains_nil]
theorem headOf {P : Program} {rest : List (List Char)} (h : behindMainWord (wordsSigns P.initOrder.toList) = "cut".toList :: rest) : P.headLifts = [] := by
  unfold Program.headLifts
  rw [h, strip]
  exact ite_self _
theorem finalOf {P : Program} {rest : List (List Char)} (h : behindMainWord (wordsSigns P.initOrder.toList) = "cut".toList :: rest) : P.liftsFinal = false := by
  have e3 : (some "cut".toList == some "carried".toList) = false := by kernel_rfl
  unfold Program.liftsFinal
  rw [headOf h, h]
  simp only [List.head?_cons, e3, Bool.false_and, Bool.false_or, List.contains_nil]
theorem makeOf {P : Program} {rest : List (List Char)} (h : behindMainWord (wordsSigns P.initOrder.toList) = "cut".toList :: rest) : P.make = some .cut := by
  have e1 : ("cut".toList == "gc".toList) = false := by kernel_rfl
  have e2 : ("cut".toList == "spec".toList) = false := by kernel_rfl
  have e4 : ("cut".toList == "cut".toList) = true := by kernel_rfl
  unfold Program.make
  rw [h]
  simp only [e1, e2, e4, Bool.or_false, Bool.true_or, if_true, Bool.false_eq_true, if_false]
theorem words : ∃ rest, behindMainWord (wordsSigns Tryz.pinned.checked.prog.initOrder.toList) = "cut".toList :: rest := by
  rw [init]
  exact ⟨(behindMainWord (wordsSigns [Char.ofNat 104, Char.ofNat 97, Char.ofNat 114, Char.ofNat 110, Char.ofNat 101, Char.ofNat 115, Char.ofNat 115, Char.ofNat 32, Char.ofNat 49, Char.ofNat 48, Char.ofNat 98, Char.ofNat 53, Char.ofNat 48, Char.ofNat 55, Char.ofNat 52, Char.ofNat 98, Char.ofNat 99, Char.ofNat 51, Char.ofNat 52, Char.ofNat 101, Char.ofNat 55, Char.ofNat 101, Char.ofNat 56, Char.ofNat 48, Char.ofNat 50, Char.ofNat 53, Char.ofNat 55, Char.ofNat 97, Char.ofNat 51, Char.ofNat 50, Char.ofNat 98, Char.ofNat 56, Char.ofNat 51, Char.ofNat 51, Char.ofNat 102, Char.ofNat 56, Char.ofNat 98, Char.ofNat 57, Char.ofNat 100, Char.ofNat 98, Char.ofNat 102, Char.ofNat 52, Char.ofNat 55, Char.ofNat 53, Char.ofNat 54, Char.ofNat 97, Char.ofNat 49, Char.ofNat 101, Char.ofNat 56, Char.ofNat 50, Char.ofNat 54, Char.ofNat 52, Char.ofNat 56, Char.ofNat 50, Char.ofNat 101, Char.ofNat 52, Char.ofNat 50, Char.ofNat 48, Char.ofNat 102, Char.ofNat 102, Char.ofNat 57, Char.ofNat 97, Char.ofNat 98, Char.ofNat 102, Char.ofNat 49, Char.ofNat 53, Char.ofNat 101, Char.ofNat 97, Char.ofNat 53, Char.ofNat 55, Char.ofNat 100, Char.ofNat 49, Char.ofNat 32, Char.ofNat 99, Char.ofNat 117, Char.ofNat 116, Char.ofNat 32, Char.ofNat 97, Char.ofNat 116, Char.ofNat 32, Char.ofNat 97, Char.ofNat 98, Char.ofNat 117, Char.ofNat 116, Char.ofNat 109, Char.ofNat 101, Char.ofNat 110, Char.ofNat 116, Char.ofNat 47, Char.ofNat 97, Char.ofNat 98, Char.ofNat 117, Char.ofNat 116, Char.ofNat 109, Char.ofNat 101, Char.ofNat 110, Char.ofNat 116, Char.ofNat 108, Char.ofNat 97, Char.ofNat 119, Char.ofNat 50, Char.ofNat 48, Char.ofNat 46, Char.ofNat 86, Char.ofNat 105, Char.ofNat 97, Char.ofNat 76, Char.ofNat 111, Char.ofNat 111, Char.ofNat 112, Char.ofNat 115, Char.ofNat 32, Char.ofNat 97, Char.ofNat 98, Char.ofNat 117, Char.ofNat 116, Char.ofNat 109, Char.ofNat 101, Char.ofNat 110, Char.ofNat 116, Char.ofNat 47, Char.ofNat 97, Char.ofNat 98, Char.ofNat 117, Char.ofNat 116, Char.ofNat 109, Char.ofNat 101, Char.ofNat 110, Char.ofNat 116, Char.ofNat 108, Char.ofNat 97, Char.ofNat 119, Char.ofNat 50, Char.ofNat 48, Char.ofNat 46, Char.ofNat 86, Char.ofNat 105, Char.ofNat 97, Char.ofNat 66, Char.ofNat 97, Char.ofNat 99, Char.ofNat 107, Char.ofNat 32, Char.ofNat 97, Char.ofNat 98, Char.ofNat 117, Char.ofNat 116, Char.ofNat 109, Char.ofNat 101, Char.ofNat 110, Char.ofNat 116, Char.ofNat 47, Char.ofNat 97, Char.ofNat 98, Char.ofNat 117, Char.ofNat 116, Char.ofNat 109, Char.ofNat 101, Char.ofNat 110, Char.ofNat 116, Char.ofNat 108, Char.ofNat 97, Char.ofNat 119, Char.ofNat 51, Char.ofNat 49, Char.ofNat 46, Char.ofNat 67, Char.ofNat 97, Char.ofNat 99, Char.ofNat 104, Char.ofNat 101, Char.ofNat 102, Char.ofNat 105, Char.ofNat 120, Char.ofNat 82, Char.ofNat 101, Char.ofNat 113, Char.ofNat 117, Char.ofNat 101, Char.ofNat 115, Char.ofNat 116, Char.ofNat 115, Char.ofNat 32, Char.ofNat 97, Char.ofNat 98, Char.ofNat 117, Char.ofNat 116, Char.ofNat 109, Char.ofNat 101, Char.ofNat 110, Char.ofNat 116, Char.ofNat 47, Char.ofNat 97, Char.ofNat 98, Char.ofNat 117, Char.ofNat 116, Char.ofNat 109, Char.ofNat 101, Char.ofNat 110, Char.ofNat 116, Char.ofNat 108, Char.ofNat 97, Char.ofNat 119, Char.ofNat 51, Char.ofNat 49, Char.ofNat 46, Char.ofNat 67, Char.ofNat 97, Char.ofNat 99, Char.ofNat 104, Char.ofNat 101, Char.ofNat 102, Char.ofNat 105, Char.ofNat 120, Char.ofNat 82, Char.ofNat 101, Char.ofNat 115, Char.ofNat 112, Char.ofNat 111, Char.ofNat 110, Char.ofNat 115, Char.ofNat 101, Char.ofNat 115, Char.ofNat 32, Char.ofNat 97, Char.ofNat 98, Char.ofNat 117, Char.ofNat 116, Char.ofNat 109, Char.ofNat 101, Char.ofNat 110, Char.ofNat 116, Char.ofNat 47, Char.ofNat 97, Char.ofNat 98, Char.ofNat 117, Char.ofNat 116, Char.ofNat 109, Char.ofNat 101, Char.ofNat 110, Char.ofNat 116, Char.ofNat 108, Char.ofNat 97, Char.ofNat 119, Char.ofNat 51, Char.ofNat 49, Char.ofNat 46, Char.ofNat 67, Char.ofNat 97, Char.ofNat 99, Char.ofNat 104, Char.ofNat 101, Char.ofNat 102, Char.ofNat 105, Char.ofNat 120, Char.ofNat 83, Char.ofNat 116, Char.ofNat 97, Char.ofNat 121, Char.ofNat 115])).tail, by kernel_rfl⟩
theorem lays : Tryz.pinned.checked.prog.laysLater = false := by kernel_rfl
theorem bears : Tryz.pinned.checked.prog.bearsReflect = false := by kernel_rfl
theorem door : Tryz.pinned.checked.prog.doorFits [] = true := by kernel_rfl
theorem mayEnter : Tryz.pinned.checked.prog.mayEnter = true := by obtain ⟨r, h⟩ := words; exact mayOf h lays bears door
theorem liftsFinal : Tryz.pinned.checked.prog.liftsFinal = false := by obtain ⟨r, h⟩ := words; exact finalOf h
theorem make : Tryz.pinned.checked.prog.make = some .cut := by obtain ⟨r, h⟩ := words; exact makeOf h
theorem laidOut : laidOutB Tryz.pinned.checked.prog = true := by kernel_rfl
theorem mapsR : mapsRowed Tryz.pinned.checked.prog = true := by kernel_rfl
theorem stops : (Tryz.pinned.checked.prog.stops == []) = true := by kernel_rfl
theorem stopKnobs : (Tryz.pinned.checked.prog.stopKnobs == []) = true := by kernel_rfl
theorem stopsHeard : Tryz.pinned.checked.prog.stopsHeard = true := by kernel_rfl
end Go.Proofs.YtlkfjkimnkhelaaGreat.Facts
end
section
namespace Go.Proofs
open Go.Shelf
def Tryz.lays156_ren : Go.Shelf.Ren := ⟨fun | 156 => 46 | 165 => 84 | 166 => 85 | 169 => 86 | 240 => 123 | 241 => 124 | 276 => 163 | 277 => 164 | n => n, fun | 31 => 40 | 9 => 9 | 3 => 3 | 4 => 4 | 0 => 0 | 20 => 20 | 72 => 91 | 76 => 95 | 70 => 89 | 37 => 68 | 75 => 94 | 127 => 123 | 164 => 153 | 5 => 5 | 80 => 62 | n => n, fun | n => n⟩
theorem Tryz.lays156 : Go.Proofs.Lays.n156 Tryz.prog Tryz.lays156_ren := {
  mixed := by kernel_rfl
  f156 := Tryz.func46.trans (congrArg some (by kernel_rfl))
  f165 := Tryz.func84.trans (congrArg some (by kernel_rfl))
  f166 := Tryz.func85.trans (congrArg some (by kernel_rfl))
  f169 := Tryz.func86.trans (congrArg some (by kernel_rfl))
  f240 := Tryz.func123.trans (congrArg some (by kernel_rfl))
  f241 := Tryz.func124.trans (congrArg some (by kernel_rfl))
  f276 := Tryz.func163.trans (congrArg some (by kernel_rfl))
  f277 := Tryz.func164.trans (congrArg some (by kernel_rfl))
  t0 := Tryz.underlying0
  a0 := Tryz.isAgg0
  z0 := Tryz.sizeOf0
  v0 := Tryz.zeroValue0
  t3 := Tryz.underlying3
  a3 := Tryz.isAgg3
  z3 := Tryz.sizeOf3
  v3 := Tryz.zeroValue3
  t4 := Tryz.underlying4
  a4 := Tryz.isAgg4
  z4 := Tryz.sizeOf4
  v4 := Tryz.zeroValue4
  t9 := Tryz.underlying9
  a9 := Tryz.isAgg9
  z9 := Tryz.sizeOf9
  v9 := Tryz.zeroValue9
  t20 := Tryz.underlying20
  a20 := Tryz.isAgg20
  z20 := Tryz.sizeOf20
  v20 := Tryz.zeroValue20
  t31 := Tryz.underlying40
  a31 := Tryz.isAgg40
  z31 := Tryz.sizeOf40
  v31 := Tryz.zeroValue40
  t37 := Tryz.underlying68
  a37 := Tryz.isAgg68
  z37 := Tryz.sizeOf68
  v37 := Tryz.zeroValue68
  t70 := Tryz.underlying89
  a70 := Tryz.isAgg89
  z70 := Tryz.sizeOf89
  v70 := Tryz.zeroValue89
  t72 := Tryz.underlying91
  a72 := Tryz.isAgg91
  z72 := Tryz.sizeOf91
  v72 := Tryz.zeroValue91
  t75 := Tryz.underlying94
  a75 := Tryz.isAgg94
  z75 := Tryz.sizeOf94
  v75 := Tryz.zeroValue94
  t76 := Tryz.underlying95
  a76 := Tryz.isAgg95
  z76 := Tryz.sizeOf95
  v76 := Tryz.zeroValue95
  t127 := Tryz.underlying123
  a127 := Tryz.isAgg123
  z127 := Tryz.sizeOf123
  v127 := Tryz.zeroValue123
  t164 := Tryz.underlying153
  a164 := Tryz.isAgg153
  z164 := Tryz.sizeOf153
  v164 := Tryz.zeroValue153 }
theorem Tryz.Builder_Extra_156 : Builder.Extra Tryz.prog Tryz.lays156_ren := {
  sizeBuilder := by kernel_rfl
  liesBuilder := by kernel_rfl
  t5 := Tryz.underlying5
  a5 := Tryz.isAgg5
  z5 := Tryz.sizeOf5
  v5 := Tryz.zeroValue5
  infoByte := by kernel_rfl
  cellsByte := by kernel_rfl
  sizeByte := by kernel_rfl
  neB5 := by decide }
open Go.RowKit in
theorem Tryz.strings_Join_none (a : Option Addr) (c : Nat) (sep : ByteArray) (w : World) :
    Calls Tryz.prog 46 #[.slice a 0 c, .string sep] w fun e w' => e = .returned (.string ⟨#[]⟩) ∧ w' = w := Any.strings_Join_none Tryz.lays156 Tryz.Builder_Extra_156 a c sep w
open Go.RowKit in
theorem Tryz.strings_Join (bk o c : Nat) (xs : List ByteArray) (sep : ByteArray) (w : World) (hcells : ∀ (j : Nat) x, xs[j]? = some x → w.cell? ⟨bk, o + j, none⟩ = some (.string x)) (hbk : bk < w.heap.size) (hN : xs.length ≤ 140737488355328) (hcap : xs.length ≤ c) (hlen : (Lib.join (xs.map (·.data.toList)) sep.data.toList).length ≤ 140737488355328) :
    Calls Tryz.prog 46 #[.slice (some ⟨bk, o, none⟩) xs.length c, .string sep] w fun e w' => e = .returned (.string ⟨(Lib.join (xs.map (·.data.toList)) sep.data.toList).toArray⟩) ∧ Below w.heap.size w w' := Any.strings_Join Tryz.lays156 Tryz.Builder_Extra_156 bk o c xs sep w hcells hbk hN hcap hlen
def Tryz.lays99_ren : Go.Shelf.Ren := ⟨fun | 99 => 81 | 206 => 122 | n => n, fun | 9 => 9 | 4 => 4 | 3 => 3 | n => n, fun | n => n⟩
theorem Tryz.lays99 : Go.Proofs.Lays.n99 Tryz.prog Tryz.lays99_ren := {
  mixed := by kernel_rfl
  f99 := Tryz.func81.trans (congrArg some (by kernel_rfl))
  f206 := Tryz.func122.trans (congrArg some (by kernel_rfl))
  t3 := Tryz.underlying3
  a3 := Tryz.isAgg3
  z3 := Tryz.sizeOf3
  v3 := Tryz.zeroValue3
  t4 := Tryz.underlying4
  a4 := Tryz.isAgg4
  z4 := Tryz.sizeOf4
  v4 := Tryz.zeroValue4
  t9 := Tryz.underlying9
  a9 := Tryz.isAgg9
  z9 := Tryz.sizeOf9
  v9 := Tryz.zeroValue9 }
open Go.RowKit Go.Lib in
theorem Tryz.strings_HasPrefix (s p : ByteArray) (w : World) :
    Calls Tryz.prog 81 #[.string s, .string p] w fun e w' => e = .returned (.bool (Lib.hasPrefix s.data.toList p.data.toList)) ∧ w' = w := Any.strings_HasPrefix Tryz.lays99 s p w
def Tryz.lays105_ren : Go.Shelf.Ren := ⟨fun | 105 => 174 | 212 => 196 | 99 => 81 | 165 => 84 | 166 => 85 | 170 => 197 | 169 => 86 | 263 => 215 | 264 => 216 | 206 => 122 | 240 => 123 | 241 => 124 | 276 => 163 | 277 => 164 | n => n, fun | 9 => 9 | 3 => 3 | 4 => 4 | 20 => 20 | 0 => 0 | 46 => 150 | 109 => 179 | 5 => 5 | 72 => 91 | 76 => 95 | 51 => 183 | 146 => 184 | 53 => 146 | 148 => 192 | 70 => 89 | 37 => 68 | 75 => 94 | 127 => 123 | 164 => 153 | 80 => 62 | n => n, fun | n => n⟩
theorem Tryz.lays105 : Go.Proofs.Lays.n105 Tryz.prog Tryz.lays105_ren := {
  mixed := by kernel_rfl
  f99 := Tryz.func81.trans (congrArg some (by kernel_rfl))
  f105 := Tryz.func174.trans (congrArg some (by kernel_rfl))
  f165 := Tryz.func84.trans (congrArg some (by kernel_rfl))
  f166 := Tryz.func85.trans (congrArg some (by kernel_rfl))
  f169 := Tryz.func86.trans (congrArg some (by kernel_rfl))
  f170 := Tryz.func197.trans (congrArg some (by kernel_rfl))
  f206 := Tryz.func122.trans (congrArg some (by kernel_rfl))
  f212 := Tryz.func196.trans (congrArg some (by kernel_rfl))
  f240 := Tryz.func123.trans (congrArg some (by kernel_rfl))
  f241 := Tryz.func124.trans (congrArg some (by kernel_rfl))
  f263 := Tryz.func215.trans (congrArg some (by kernel_rfl))
  f264 := Tryz.func216.trans (congrArg some (by kernel_rfl))
  f276 := Tryz.func163.trans (congrArg some (by kernel_rfl))
  f277 := Tryz.func164.trans (congrArg some (by kernel_rfl))
  t0 := Tryz.underlying0
  a0 := Tryz.isAgg0
  z0 := Tryz.sizeOf0
  v0 := Tryz.zeroValue0
  t3 := Tryz.underlying3
  a3 := Tryz.isAgg3
  z3 := Tryz.sizeOf3
  v3 := Tryz.zeroValue3
  t4 := Tryz.underlying4
  a4 := Tryz.isAgg4
  z4 := Tryz.sizeOf4
  v4 := Tryz.zeroValue4
  t5 := Tryz.underlying5
  a5 := Tryz.isAgg5
  z5 := Tryz.sizeOf5
  v5 := Tryz.zeroValue5
  t9 := Tryz.underlying9
  a9 := Tryz.isAgg9
  z9 := Tryz.sizeOf9
  v9 := Tryz.zeroValue9
  t20 := Tryz.underlying20
  a20 := Tryz.isAgg20
  z20 := Tryz.sizeOf20
  v20 := Tryz.zeroValue20
  t37 := Tryz.underlying68
  a37 := Tryz.isAgg68
  z37 := Tryz.sizeOf68
  v37 := Tryz.zeroValue68
  t46 := Tryz.underlying150
  a46 := Tryz.isAgg150
  z46 := Tryz.sizeOf150
  v46 := Tryz.zeroValue150
  t51 := Tryz.underlying183
  a51 := Tryz.isAgg183
  z51 := Tryz.sizeOf183
  v51 := Tryz.zeroValue183
  t53 := Tryz.underlying146
  a53 := Tryz.isAgg146
  z53 := Tryz.sizeOf146
  v53 := Tryz.zeroValue146
  t70 := Tryz.underlying89
  a70 := Tryz.isAgg89
  z70 := Tryz.sizeOf89
  v70 := Tryz.zeroValue89
  t72 := Tryz.underlying91
  a72 := Tryz.isAgg91
  z72 := Tryz.sizeOf91
  v72 := Tryz.zeroValue91
  t75 := Tryz.underlying94
  a75 := Tryz.isAgg94
  z75 := Tryz.sizeOf94
  v75 := Tryz.zeroValue94
  t76 := Tryz.underlying95
  a76 := Tryz.isAgg95
  z76 := Tryz.sizeOf95
  v76 := Tryz.zeroValue95
  t109 := Tryz.underlying179
  a109 := Tryz.isAgg179
  z109 := Tryz.sizeOf179
  v109 := Tryz.zeroValue179
  t127 := Tryz.underlying123
  a127 := Tryz.isAgg123
  z127 := Tryz.sizeOf123
  v127 := Tryz.zeroValue123
  t146 := Tryz.underlying184
  a146 := Tryz.isAgg184
  z146 := Tryz.sizeOf184
  v146 := Tryz.zeroValue184
  t148 := Tryz.underlying192
  a148 := Tryz.isAgg192
  z148 := Tryz.sizeOf192
  v148 := Tryz.zeroValue192
  t164 := Tryz.underlying153
  a164 := Tryz.isAgg153
  z164 := Tryz.sizeOf153
  v164 := Tryz.zeroValue153 }
theorem Tryz.Builder_Extra_105 : Builder.Extra Tryz.prog Tryz.lays105_ren := {
  sizeBuilder := by kernel_rfl
  liesBuilder := by kernel_rfl
  t5 := Tryz.underlying5
  a5 := Tryz.isAgg5
  z5 := Tryz.sizeOf5
  v5 := Tryz.zeroValue5
  infoByte := by kernel_rfl
  cellsByte := by kernel_rfl
  sizeByte := by kernel_rfl
  neB5 := by decide }
open Go.RowKit Go.Lib in
theorem Tryz.strings_Repeat (s : ByteArray) (c : Nat) (w : World) (hc : c ≤ 9223372036854775807) (hlen : s.size * c ≤ 140737488355328) :
    Calls Tryz.prog 174 #[.string s, .int .i64 c] w fun e w' => e = .returned (.string ⟨(Lib.repeatL s.data.toList c).toArray⟩) ∧ Below w.heap.size w w' := Any.strings_Repeat Tryz.lays105 Tryz.Builder_Extra_105 s c w hc hlen
end Go.Proofs
end
section
set_option linter.unusedVariables false
set_option linter.unusedSimpArgs false
namespace Go.Mdl
open Go Go.Abs
theorem repeatL_one (c : UInt8) : ∀ n, Lib.repeatL [c] n = List.replicate n c
  | 0 => rfl
  | n + 1 => by simp [Lib.repeatL, repeatL_one c n, List.replicate_succ]
theorem ba_size (s : List UInt8) : (ByteArray.mk s.toArray).size = s.length := by simp [ByteArray.size]
theorem list2 {vs : List Value} (h : vs.length = 2) : ∃ a b, vs = [a, b] := by
  match vs, h with
  | [a, b], _ => exact ⟨a, b, rfl⟩
end Go.Mdl
namespace Go.Proofs.Tryz.Lib
open Go Go.Abs Go.Proofs Go.Mdl
set_option maxRecDepth 100000 in
set_option maxHeartbeats 4000000 in
theorem specRepeat (s : List UInt8) (c : Int) (hc : 0 ≤ c ∧ c ≤ 1000000) (hs : s.length ≤ 1000000) : SpecE Tryz.prog 174 [] [.str s, .int .i64 c] [] (.str (Lib.repeatL s c.toNat)) := by
  refine SpecE.ofCalls (by decide +kernel) (fun w ok vs hok hl hr => ?_)
  obtain ⟨v0, v1, rfl⟩ := list2 hl
  have e0 := (hr 0 _ _ rfl rfl).strInv
  have e1 := (hr 1 _ _ rfl rfl).intInv
  subst e0 e1
  have hcn : ((c.toNat : Nat) : Int) = c := by omega
  have key := Tryz.strings_Repeat ⟨s.toArray⟩ c.toNat w (by omega) (by
    rw [ba_size]
    have : s.length * c.toNat ≤ 1000000 * 1000000 := Nat.mul_le_mul hs (by omega)
    omega)
  rw [hcn] at key
  refine key.mono ?_
  rintro e w' ⟨rfl, hb⟩
  exact ⟨_, rfl, hb, fun ok' => .str _⟩
def tb_specRepeat : List Blk → List AV → Option (List Blk × AV × Prop)
  | [], [.str s, .int .i64 c] => some ([], .str (Lib.repeatL s c.toNat), (0 ≤ c ∧ c ≤ 1000000) ∧ (s.length ≤ 1000000))
  | _, _ => none
theorem tb_specRepeat_ok : ∀ E args E' res p, tb_specRepeat E args = some (E', res, p) → p → SpecE Tryz.prog 174 E args E' res := by
  intro E args E' res p h hp
  unfold tb_specRepeat at h
  split at h
  · simp only [Option.some.injEq, Prod.mk.injEq] at h
    obtain ⟨rfl, rfl, rfl⟩ := h
    exact (specRepeat _ _ hp.1 hp.2)
  · cases h
set_option maxRecDepth 100000 in
set_option maxHeartbeats 4000000 in
theorem specHasPrefix (s p : List UInt8) : SpecE Tryz.prog 81 [] [.str s, .str p] [] (.bool (Lib.hasPrefix s p)) := by
  refine SpecE.ofCalls (by decide +kernel) (fun w ok vs hok hl hr => ?_)
  obtain ⟨v0, v1, rfl⟩ := list2 hl
  have e0 := (hr 0 _ _ rfl rfl).strInv
  have e1 := (hr 1 _ _ rfl rfl).strInv
  subst e0 e1
  refine (Tryz.strings_HasPrefix ⟨s.toArray⟩ ⟨p.toArray⟩ w).mono ?_
  rintro e w' ⟨rfl, rfl⟩
  exact ⟨_, rfl, RowKit.Below.refl _ _, fun ok' => .bool _⟩
def tb_specHasPrefix : List Blk → List AV → Option (List Blk × AV × Prop)
  | [], [.str s, .str p] => some ([], .bool (Lib.hasPrefix s p), True)
  | _, _ => none
theorem tb_specHasPrefix_ok : ∀ E args E' res p, tb_specHasPrefix E args = some (E', res, p) → p → SpecE Tryz.prog 81 E args E' res := by
  intro E args E' res p h hp
  unfold tb_specHasPrefix at h
  split at h
  · simp only [Option.some.injEq, Prod.mk.injEq] at h
    obtain ⟨rfl, rfl, rfl⟩ := h
    exact (specHasPrefix _ _)
  · cases h
def T_specJoin : Tbl := fun g E args => nilT g E args
theorem T_specJoin_ok : TblOK Tryz.prog T_specJoin := nilT_ok
set_option maxRecDepth 100000 in
set_option maxHeartbeats 4000000 in
theorem specJoin (l : List (List UInt8)) (p : List UInt8) (hn : l.length ≤ 1000000) (hj : (Lib.join l p).length ≤ 140737488355328) : SpecE Tryz.prog 46 [] [enc_strs l, .str p] [] (.str (Lib.join l p)) := by
  refine SpecE.ofCalls (by decide +kernel) (fun w ok vs hok hl hr => ?_)
  obtain ⟨v0, v1, rfl⟩ := list2 hl
  have h0 := hr 0 _ _ rfl rfl
  have e1 := (hr 1 _ _ rfl rfl).strInv
  subst e1
  obtain ⟨a, cap, rfl, hcap, hmx, hh⟩ := Rp.listInv h0
  have hmap : ∀ xs : List (List UInt8), (xs.map fun x => ByteArray.mk x.toArray).map (fun x => x.data.toList) = xs := fun xs => by simp [List.map_map, Function.comp_def]
  by_cases hnil : l = []
  · subst hnil
    refine (Tryz.strings_Join_none a cap ⟨p.toArray⟩ w).mono ?_
    rintro e w' ⟨rfl, rfl⟩
    refine ⟨_, rfl, RowKit.Below.refl _ _, fun ok' => ?_⟩
    exact .str []
  rcases hh with hh | ⟨b, off, cv, rfl, hs, h1, h2⟩
  · exact absurd (List.map_eq_nil_iff.1 hh) hnil
  have hc : ∀ (j : Nat) x, (l.map fun x => ByteArray.mk x.toArray)[j]? = some x → w.cell? ⟨b, off + j, none⟩ = some (.string x) := fun j x hx => by
    simp only [List.getElem?_map, Option.map_eq_some_iff] at hx
    obtain ⟨y, hy, rfl⟩ := hx
    have hx : (l.map AV.str)[j]? = some (.str y) := by simp [hy]
    have g1 := h1 j _ 0 _ hx rfl
    have g2 := (h2 j _ 0 _ hx rfl).strInv
    rw [g2] at g1
    simpa using g1.2.1
  have hb : b < w.heap.size := by
    obtain ⟨x, hx⟩ : ∃ x, l[0]? = some x := by cases l with | nil => exact absurd rfl hnil | cons x r => exact ⟨x, rfl⟩
    have g1 := h1 0 (.str x) 0 _ (by simp [hx]) rfl
    exact hok _ _ g1.1
  have key := Tryz.strings_Join b off cap (l.map fun x => ByteArray.mk x.toArray) ⟨p.toArray⟩ w hc hb (by simp; omega) (by simpa using hcap) (by rw [hmap]; exact hj)
  rw [hmap, List.length_map] at key
  have e2 : (l.map AV.str).length = l.length := by simp
  rw [e2]
  refine key.mono ?_
  rintro e w' ⟨rfl, hb⟩
  exact ⟨_, rfl, hb, fun ok' => .str _⟩
def tb_specJoin : List Blk → List AV → Option (List Blk × AV × Prop)
  | [], [a0, .str p] => some ([], .str (Lib.join (dec_strs a0) p), ((dec_strs a0).length ≤ 1000000) ∧ ((Lib.join (dec_strs a0) p).length ≤ 140737488355328) ∧ argOK a0 (enc_strs (dec_strs a0)))
  | _, _ => none
theorem tb_specJoin_ok : ∀ E args E' res p, tb_specJoin E args = some (E', res, p) → p → SpecE Tryz.prog 46 E args E' res := by
  intro E args E' res p h hp
  unfold tb_specJoin at h
  split at h
  · simp only [Option.some.injEq, Prod.mk.injEq] at h
    obtain ⟨rfl, rfl, rfl⟩ := h
    exact SpecE.args (specJoin _ _ hp.1 hp.2.1) (.cons hp.2.2 (.cons (argOK.refl _) .nil))
  · cases h
end Go.Proofs.Tryz.Lib
end
section
set_option linter.unusedVariables false
set_option linter.unusedSimpArgs false
namespace Go.Proofs.Tryz.Lists
open Go Go.Abs Go.Proofs Go.Mdl
def T_specClosed : Tbl := fun g E args => nilT g E args
theorem T_specClosed_ok : TblOK Tryz.prog T_specClosed := nilT_ok
set_option maxRecDepth 100000 in
set_option maxHeartbeats 4000000 in
theorem specClosed (q s : Bool) (d : Int) (hd : 0 ≤ d) : SpecE Tryz.prog 105 [.cells 3 false (.agg [.bool false, .bool false, .int .i64 0]) [.agg [.bool q, .bool s, .int .i64 d]]] [.ptr 0 0 0 1] [.cells 3 false (.agg [.bool false, .bool false, .int .i64 0]) [.agg [.bool q, .bool s, .int .i64 d]]] (.bool (Scan.mk q s d.toNat).closed) := by
  refine specFE (C := T_specClosed) (wr := false) (D := fun _ => []) (U := fun _ => none) (E := [.cells 3 false (.agg [.bool false, .bool false, .int .i64 0]) [.agg [.bool q, .bool s, .int .i64 d]]]) (E' := [.cells 3 false (.agg [.bool false, .bool false, .int .i64 0]) [.agg [.bool q, .bool s, .int .i64 d]]]) (res := [.bool (Scan.mk q s d.toNat).closed]) [] Tryz.Ty.mixed T_specClosed_ok Tryz.func105 (args := [.ptr 0 0 0 1]) (nE := 1) (nA := 1) (by decide +kernel) rfl rfl ?_
  simp only [Tryz.f105, bodyOf, rlOf]
  rw [W_V]
  simp (config := {maxSteps := 2000000}) only [T_specClosed, go_sem, seval]
  (try simp (config := {maxSteps := 2000000}) only [gimp, impB, isT, go_sem, seval])
  simp only [Scan.closed]
  cases q <;> cases s <;> simp
  omega
def tb_specClosed : List Blk → List AV → Option (List Blk × AV × Prop)
  | [.cells 3 false z [.agg [.bool q, .bool s, .int .i64 d]]], [.ptr 0 0 0 1] => some ([.cells 3 false (.agg [.bool false, .bool false, .int .i64 0]) [.agg [.bool q, .bool s, .int .i64 d]]], .bool (Scan.mk q s d.toNat).closed, (z = .agg [.bool false, .bool false, .int .i64 0]) ∧ (0 ≤ d))
  | _, _ => none
theorem tb_specClosed_ok : ∀ E args E' res p, tb_specClosed E args = some (E', res, p) → p → SpecE Tryz.prog 105 E args E' res := by
  intro E args E' res p h hp
  unfold tb_specClosed at h
  split at h
  · simp only [Option.some.injEq, Prod.mk.injEq] at h
    obtain ⟨rfl, rfl, rfl⟩ := h
    obtain ⟨rfl, hp⟩ := hp
    exact (specClosed _ _ _ hp)
  · cases h
def T_specSee : Tbl := fun g E args => nilT g E args
theorem T_specSee_ok : TblOK Tryz.prog T_specSee := nilT_ok
set_option maxRecDepth 100000 in
set_option maxHeartbeats 4000000 in
theorem specSee (q s : Bool) (d : Int) (c : UInt8) (hd : 0 ≤ d ∧ d ≤ 100000000) : SpecE Tryz.prog 104 [.cells 3 false (.agg [.bool false, .bool false, .int .i64 0]) [.agg [.bool q, .bool s, .int .i64 d]]] [.ptr 0 0 0 1, enc_u8 c] [.cells 3 false (.agg [.bool false, .bool false, .int .i64 0]) [.agg [.bool ((Scan.mk q s d.toNat).see c).q, .bool ((Scan.mk q s d.toNat).see c).s, .int .i64 ((Scan.mk q s d.toNat).see c).d]]] (.tuple []) := by
  refine specFE (C := T_specSee) (wr := false) (D := fun _ => []) (U := fun _ => none) (E := [.cells 3 false (.agg [.bool false, .bool false, .int .i64 0]) [.agg [.bool q, .bool s, .int .i64 d]]]) (E' := [.cells 3 false (.agg [.bool false, .bool false, .int .i64 0]) [.agg [.bool ((Scan.mk q s d.toNat).see c).q, .bool ((Scan.mk q s d.toNat).see c).s, .int .i64 ((Scan.mk q s d.toNat).see c).d]]]) (res := []) [] Tryz.Ty.mixed T_specSee_ok Tryz.func104 (args := [.ptr 0 0 0 1, enc_u8 c]) (nE := 1) (nA := 2) (by decide +kernel) rfl rfl ?_
  simp only [Tryz.f104, bodyOf, rlOf]
  rw [W_V]
  simp (config := {maxSteps := 2000000}) only [T_specSee, go_sem, seval]
  (try simp (config := {maxSteps := 2000000}) only [gimp, impB, isT, go_sem, seval])
  have hdn : ((d.toNat : Nat) : Int) = d := by omega
  have hz : d.toNat = 0 ↔ d = 0 := by omega
  have hp : 0 < d.toNat ↔ 0 < d := by omega
  (repeat' (first | refine And.intro ?_ ?_ | intro _))
  all_goals (try first | omega | assumption | contradiction)
  all_goals (simp only [Scan.see, hz, hp])
  all_goals ((repeat' split) <;> simp_all <;> omega)
def tb_specSee : List Blk → List AV → Option (List Blk × AV × Prop)
  | [.cells 3 false z [.agg [.bool q, .bool s, .int .i64 d]]], [.ptr 0 0 0 1, a1] => some ([.cells 3 false (.agg [.bool false, .bool false, .int .i64 0]) [.agg [.bool ((Scan.mk q s d.toNat).see (dec_u8 a1)).q, .bool ((Scan.mk q s d.toNat).see (dec_u8 a1)).s, .int .i64 ((Scan.mk q s d.toNat).see (dec_u8 a1)).d]]], .tuple [], (z = .agg [.bool false, .bool false, .int .i64 0]) ∧ (0 ≤ d ∧ d ≤ 100000000) ∧ argOK a1 (enc_u8 (dec_u8 a1)))
  | _, _ => none
theorem tb_specSee_ok : ∀ E args E' res p, tb_specSee E args = some (E', res, p) → p → SpecE Tryz.prog 104 E args E' res := by
  intro E args E' res p h hp
  unfold tb_specSee at h
  split at h
  · simp only [Option.some.injEq, Prod.mk.injEq] at h
    obtain ⟨rfl, rfl, rfl⟩ := h
    obtain ⟨rfl, hp⟩ := hp
    exact SpecE.args (specSee _ _ _ _ hp.1) (.cons (argOK.refl _) (.cons hp.2 .nil))
  · cases h
def T_specEnds : Tbl := fun g E args => (addT (addT nilT 105 Go.Proofs.Tryz.Lists.tb_specClosed) 104 Go.Proofs.Tryz.Lists.tb_specSee) g E args
theorem T_specEnds_ok : TblOK Tryz.prog T_specEnds := (addT_ok (addT_ok nilT_ok (by decide +kernel) Go.Proofs.Tryz.Lists.tb_specClosed_ok) (by decide +kernel) Go.Proofs.Tryz.Lists.tb_specSee_ok)
set_option maxRecDepth 100000 in
set_option maxHeartbeats 4000000 in
theorem specEnds (s : List UInt8) (hs : s.length ≤ 100000000) : SpecE Tryz.prog 64 [] [.str s] [] (.bool (endsS s)) := by
  refine specF0 (C := T_specEnds) (wr := false) (D := fun _ => []) (U := fun _ => none) (res := [.bool (endsS s)]) Tryz.Ty.mixed T_specEnds_ok Tryz.func64 (nA := 1) (by decide +kernel) rfl (fun _ => rfl) ?_
  simp only [Tryz.f64, bodyOf, rlOf]
  rw [W_V]
  simp (config := {maxSteps := 2000000}) only [T_specEnds, Go.Proofs.Tryz.Lists.tb_specClosed, Go.Proofs.Tryz.Lists.tb_specSee, go_sem, seval]
  (try simp (config := {maxSteps := 2000000}) only [gimp, impB, isT, go_sem, seval])
  refine VL_inv (X := Nat) (fun x => ⟨[(0, .str s), (3, .ptr 64 0 0 1), (6, .int .i64 s.length), (7, .int .i64 x)], [(64, .cells 3 false (.agg [.bool false, .bool false, .int .i64 0]) [.agg [.bool (scan0.run (s.take x)).q, .bool (scan0.run (s.take x)).s, .int .i64 (scan0.run (s.take x)).d]])]⟩) (fun x => x ≤ s.length) (fun x => s.length - x) 0 ?_ ?_ ?_
  · simp only [go_sem, go_sem, seval]
    try rfl
  · exact Nat.zero_le _
  rintro x hx
  simp (config := {maxSteps := 2000000}) only [T_specEnds, Go.Proofs.Tryz.Lists.tb_specClosed, Go.Proofs.Tryz.Lists.tb_specSee, go_sem, seval]
  (try simp (config := {maxSteps := 2000000}) only [gimp, impB, isT, go_sem, seval])
  have h1 := Scan.run_d (s.take x) scan0
  have h2 : (s.take x).length ≤ s.length := by rw [List.length_take]; omega
  have h3 : scan0.d = 0 := rfl
  (repeat' (first | refine And.intro ?_ ?_ | intro _))
  all_goals (try first | omega | assumption | contradiction)
  · refine ⟨x + 1, ⟨by omega, ?_⟩, by omega, by omega⟩
    rw [Scan.run_take (by omega)]
  · have : x = s.length := by omega
    subst this
    rw [List.take_length]; rfl
def tb_specEnds : List Blk → List AV → Option (List Blk × AV × Prop)
  | [], [.str s] => some ([], .bool (endsS s), (s.length ≤ 100000000))
  | _, _ => none
theorem tb_specEnds_ok : ∀ E args E' res p, tb_specEnds E args = some (E', res, p) → p → SpecE Tryz.prog 64 E args E' res := by
  intro E args E' res p h hp
  unfold tb_specEnds at h
  split at h
  · simp only [Option.some.injEq, Prod.mk.injEq] at h
    obtain ⟨rfl, rfl, rfl⟩ := h
    exact (specEnds _ hp)
  · cases h
def T_specElements : Tbl := fun g E args => nilT g E args
theorem T_specElements_ok : TblOK Tryz.prog T_specElements := nilT_ok
set_option maxRecDepth 100000 in
set_option maxHeartbeats 4000000 in
theorem specElements (s : List UInt8) : SpecE Tryz.prog 65 [] [.str s] [.cells 1 false (.str []) [.str s]] (.clo 106 0 [.ptr 0 0 0 1]) := by
  refine specFE (C := T_specElements) (wr := false) (D := fun _ => []) (U := fun _ => none) (E := []) (E' := [.cells 1 false (.str []) [.str s]]) (res := [.clo 106 0 [.ptr 0 0 0 1]]) [32] Tryz.Ty.mixed T_specElements_ok Tryz.func65 (args := [.str s]) (nE := 0) (nA := 1) (by decide +kernel) rfl rfl ?_
  simp only [Tryz.f65, bodyOf, rlOf]
  rw [W_V]
  simp (config := {maxSteps := 2000000}) only [T_specElements, go_sem, seval]
  (try simp (config := {maxSteps := 2000000}) only [gimp, impB, isT, go_sem, seval])
def tb_specElements : List Blk → List AV → Option (List Blk × AV × Prop)
  | [], [.str s] => some ([.cells 1 false (.str []) [.str s]], .clo 106 0 [.ptr 0 0 0 1], True)
  | _, _ => none
theorem tb_specElements_ok : ∀ E args E' res p, tb_specElements E args = some (E', res, p) → p → SpecE Tryz.prog 65 E args E' res := by
  intro E args E' res p h hp
  unfold tb_specElements at h
  split at h
  · simp only [Option.some.injEq, Prod.mk.injEq] at h
    obtain ⟨rfl, rfl, rfl⟩ := h
    exact (specElements _)
  · cases h
noncomputable def lcS : LoopC := lcOf Tryz.f31 21
noncomputable def recS : Blk := .loop lcS .ready none [(10, .clo 106 0 [.ptr 1 0 0 1]), (4, .ptr 2 0 0 1)]
def DS : Nat → List Nat := fun i => if i = dN then [21] else []
def T_yldS0 : Tbl := addT nilT 66 Oct.tb_specTrim
theorem T_yldS0_ok : TblOK Tryz.prog T_yldS0 := addT_ok nilT_ok (by decide +kernel) Oct.tb_specTrim_ok
set_option maxRecDepth 100000 in
set_option maxHeartbeats 4000000 in
theorem yldS (s p : List UInt8) (l : List (List UInt8)) (hp : p.length ≤ maxLen) (hl : l.length ≤ 200000000) :
    SpecE Tryz.prog yldF (recS :: [.cells 1 false (.str []) [.str s], .cells 1 false .nils [.ref 3 0 l.length l.length], .cells 1 false (.str []) (l.map .str)]) (.yld 0 :: [.str p])
      [recS, .cells 1 false (.str []) [.str s], .cells 1 false .nils [.ref 3 0 (l ++ keepE [p]).length (l ++ keepE [p]).length], .cells 1 false (.str []) ((l ++ keepE [p]).map .str)] (.bool true) := by
  refine specY (C := T_yldS0) (wr := false) (D := DS) (U := fun _ => none) (nE := 4) [] Tryz.Ty.mixed T_yldS0_ok (by decide +kernel) rfl rfl ?_
  have hA : lcS.assign = lcS.assign := rfl
  have hB : lcS.body = lcS.body := rfl
  conv at hA => rhs; simp only [lcS, lcOf, rangeIn, bodyOf, Tryz.f31]
  conv at hB => rhs; simp only [lcS, lcOf, rangeIn, bodyOf, Tryz.f31]
  have hP : lcS.ps.toList = [11] := rfl
  rw [hA, W_V]
  simp (config := {maxSteps := 200000000}) only [hP, recS, T_yldS0, Oct.tb_specTrim, go_sem, go_sem, seval, true_and]
  rw [hB]
  simp (config := {maxSteps := 200000000}) only [hP, recS, T_yldS0, Oct.tb_specTrim, go_sem, go_sem, seval, true_and]
  clear hA hB hP
  refine ⟨hp, fun h => ?_, fun h => ?_⟩
  · have e : keepE [p] = [trimS p] := by simp [keepE, h]
    rw [e]
    refine ⟨by omega, ?_⟩
    simp
  · have e : keepE [p] = [] := by simp [keepE, h]
    rw [e, List.append_nil]
    simp
def tb_yldS : List Blk → List AV → Option (List Blk × AV × Prop)
  | [b0, .cells 1 false d1 [.str s], .cells 1 false d2 [.ref 3 0 n m], .cells 1 false d3 c], [.yld 0, .str p] =>
    some ([b0, .cells 1 false d1 [.str s], .cells 1 false d2 [.ref 3 0 (c.length + (keepE [p]).length) (c.length + (keepE [p]).length)], .cells 1 false d3 (c ++ (keepE [p]).map .str)], .bool true,
      b0 = recS ∧ d1 = .str [] ∧ d2 = .nils ∧ d3 = .str [] ∧ n = c.length ∧ m = c.length ∧ (c.map toStr).map .str = c ∧ p.length ≤ maxLen ∧ c.length ≤ 200000000)
  | _, _ => none
theorem tb_yldS_ok : ∀ E args E' res q, tb_yldS E args = some (E', res, q) → q → SpecE Tryz.prog yldF E args E' res := by
  intro E args E' res q h hq
  unfold tb_yldS at h
  split at h
  · rename_i b0 d1 s d2 n m d3 c p
    simp only [Option.some.injEq, Prod.mk.injEq] at h
    obtain ⟨rfl, rfl, rfl⟩ := h
    obtain ⟨rfl, rfl, rfl, rfl, rfl, rfl, h1, h2, h3⟩ := hq
    have := yldS s p (c.map toStr) h2 (by rw [List.length_map]; exact h3)
    simp only [List.map_append, h1, List.length_append, List.length_map] at this
    exact this
  · cases h
def yT : Tbl := addT nilT yldF tb_yldS
theorem yT_ok : TblOK Tryz.prog yT := addT_ok nilT_ok (by simp) tb_yldS_ok
def T_specElementsF : Tbl := fun g E args => (addT (addT yT 105 Go.Proofs.Tryz.Lists.tb_specClosed) 104 Go.Proofs.Tryz.Lists.tb_specSee) g E args
theorem T_specElementsF_ok : TblOK Tryz.prog T_specElementsF := (addT_ok (addT_ok yT_ok (by decide +kernel) Go.Proofs.Tryz.Lists.tb_specClosed_ok) (by decide +kernel) Go.Proofs.Tryz.Lists.tb_specSee_ok)
set_option maxRecDepth 100000 in
set_option maxHeartbeats 4000000 in
theorem specElementsF (s : List UInt8) (l : List (List UInt8)) (hs : s.length ≤ 100000000) (hl : l.length ≤ 10) : SpecE Tryz.prog 106 [recS, .cells 1 false (.str []) [.str s], .cells 1 false .nils [.ref 3 0 l.length l.length], .cells 1 false (.str []) (l.map .str)] [.yld 0, .ptr 1 0 0 1] [recS, .cells 1 false (.str []) [.str s], .cells 1 false .nils [.ref 3 0 (l ++ keepE (elemsS s)).length (l ++ keepE (elemsS s)).length], .cells 1 false (.str []) ((l ++ keepE (elemsS s)).map .str)] (.tuple []) := by
  refine specFE (C := T_specElementsF) (wr := false) (D := fun _ => []) (U := fun _ => none) (E := [recS, .cells 1 false (.str []) [.str s], .cells 1 false .nils [.ref 3 0 l.length l.length], .cells 1 false (.str []) (l.map .str)]) (E' := [recS, .cells 1 false (.str []) [.str s], .cells 1 false .nils [.ref 3 0 (l ++ keepE (elemsS s)).length (l ++ keepE (elemsS s)).length], .cells 1 false (.str []) ((l ++ keepE (elemsS s)).map .str)]) (res := []) [] Tryz.Ty.mixed T_specElementsF_ok Tryz.func106 (args := [.yld 0, .ptr 1 0 0 1]) (nE := 4) (nA := 2) (by decide +kernel) rfl rfl ?_
  simp only [Tryz.f106, bodyOf, rlOf]
  rw [W_V]
  simp (config := {maxSteps := 2000000}) only [T_specElementsF, Go.Proofs.Tryz.Lists.tb_specClosed, Go.Proofs.Tryz.Lists.tb_specSee, go_sem, seval, yT, tb_yldS, recS]
  (try simp (config := {maxSteps := 2000000}) only [gimp, impB, isT, go_sem, seval])
  refine VL_inv (X := Nat × Nat × Scan × List (List UInt8)) (fun y => ⟨[(8, .int .i64 y.1), (7, .int .i64 s.length), (4, .int .i64 y.2.1), (3, .ptr 64 0 0 1), (0, .yld 0), (1, .ptr 1 0 0 1)],
    [(64, .cells 3 false (.agg [.bool false, .bool false, .int .i64 0]) [.agg [.bool y.2.2.1.q, .bool y.2.2.1.s, .int .i64 y.2.2.1.d]]), (0, recS), (1, .cells 1 false (.str []) [.str s]), (2, .cells 1 false .nils [.ref 3 0 (l ++ keepE y.2.2.2).length (l ++ keepE y.2.2.2).length]), (3, .cells 1 false (.str []) ((l ++ keepE y.2.2.2).map .str))]⟩)
    (fun y => y.1 ≤ s.length ∧ y.2.1 ≤ y.1 ∧ y.2.2.1.d ≤ y.1 ∧ y.2.2.2.length ≤ y.2.1 ∧ elemsS s = y.2.2.2 ++ elemsGo y.2.2.1 ((s.take y.1).drop y.2.1) (s.drop y.1)) (fun y => s.length - y.1) (0, 0, scan0, []) ?_ ?_ ?_
  · simp only [recS, go_sem, go_sem, seval, keepE, List.filter_nil]
    try rfl
  · exact ⟨Nat.zero_le _, Nat.le_refl _, Nat.le_refl _, Nat.le_refl _, by simp [elemsS]⟩
  rintro ⟨i, fr, x, dn⟩ ⟨i1, i2, i3, i4, i5⟩
  simp only at i1 i2 i3 i4 i5
  simp (config := {maxSteps := 2000000}) only [T_specElementsF, Go.Proofs.Tryz.Lists.tb_specClosed, Go.Proofs.Tryz.Lists.tb_specSee, go_sem, seval, yT, tb_yldS, recS]
  (try simp (config := {maxSteps := 2000000}) only [gimp, impB, isT, go_sem, seval])
  have hm : ∀ (σ : Nat → Nat) (a b : List (List UInt8)), ((a.map AV.str) ++ (b.map AV.str)).map (ren σ) = (a ++ b).map AV.str := fun σ a b => by rw [← List.map_append, ren_map (fun _ => rfl)]
  have hk : ∀ a b : List (List UInt8), (l ++ keepE a).length + (keepE b).length = (l ++ keepE (a ++ b)).length := fun a b => by rw [keepE_append]; simp only [List.length_append]; omega
  have hj : ∀ a b : List (List UInt8), (l ++ keepE a) ++ keepE b = l ++ keepE (a ++ b) := fun a b => by rw [keepE_append, List.append_assoc]
  have hle : ∀ a : List (List UInt8), (keepE a).length ≤ a.length := fun a => by
    have := List.length_filter_le (fun e => !decide (e = [])) (a.map trimS)
    simpa [keepE] using this
  have hd := hle dn
  have hmx : (200000000 : Nat) ≤ maxLen := by decide
  simp only [hm, hk, hj]
  have next : ∀ hlt : i < s.length, ¬ (s.getD i 0 = 44 ∧ x.closed = true) → elemsS s = dn ++ elemsGo (x.see (s.getD i 0)) ((s.take (i + 1)).drop fr) (s.drop (i + 1)) := fun hlt hc => by
    rw [i5, drop_cons hlt, elemsGo_cons, if_neg hc, take_succ_getD 0 hlt, List.drop_append_of_le_length (by rw [List.length_take]; omega)]
  have hsd := Scan.see_d x (s.getD i 0)
  (repeat' (first | refine And.intro ?_ ?_ | intro _))
  all_goals (try first | omega | assumption | contradiction)
  · rw [List.length_drop, List.length_take]; omega
  · rw [List.length_append]; omega
  · rename_i h1 h2 h3 h4
    refine ⟨(i + 1, i + 1, x, dn ++ [(s.take i).drop fr]), ⟨⟨by simp only; omega, by simp only; omega⟩, ⟨rfl, rfl, rfl⟩, rfl, rfl⟩, ⟨by simp only; omega, Nat.le_refl _, by simp only; omega, by simp only [List.length_append, List.length_cons, List.length_nil]; omega, ?_⟩, by simp only; omega⟩
    simp only
    have e9 := drop_cons (s := s) (i := i) (by omega)
    have e8 : (s.take (i + 1)).drop (i + 1) = [] := List.drop_eq_nil_of_le (by rw [List.length_take]; omega)
    rw [i5, e9, elemsGo_cons, if_pos ⟨h2, h4⟩, List.append_assoc, e8]
    rfl
  · rename_i h1 h2 h3
    refine ⟨(i + 1, fr, x.see (s.getD i 0), dn), ⟨⟨by simp only; omega, rfl⟩, ⟨rfl, rfl, rfl⟩, rfl, rfl⟩, ⟨by simp only; omega, by simp only; omega, by simp only; omega, i4, next (by omega) (fun ⟨e1, e2⟩ => by
      have e3 : (Scan.mk x.q x.s x.d).closed = true := e2
      rw [decide_eq_true e1, e3] at h3; cases h3)⟩, by simp only; omega⟩
  · rename_i h1 h2
    refine ⟨(i + 1, fr, x.see (s.getD i 0), dn), ⟨⟨by simp only; omega, rfl⟩, ⟨rfl, rfl, rfl⟩, rfl, rfl⟩, ⟨by simp only; omega, by simp only; omega, by simp only; omega, i4, next (by omega) (fun ⟨e1, e2⟩ => h2 e1)⟩, by simp only; omega⟩
  · rw [List.length_drop]; omega
  · rw [List.length_append]; omega
  all_goals (
    have e0 : i = s.length := by omega
    subst e0
    rw [List.take_length, List.drop_length] at i5
    have e : elemsS s = dn ++ [s.drop fr] := i5
    rw [e])
def tb_elementsF : List Blk → List AV → Option (List Blk × AV × Prop)
  | [b0, .cells 1 false d1 [.str s], .cells 1 false d2 [.ref 3 0 n m], .cells 1 false d3 c], [.yld 0, .ptr 1 0 0 1] =>
    some ([b0, .cells 1 false d1 [.str s], .cells 1 false d2 [.ref 3 0 (keepE (elemsS s)).length (keepE (elemsS s)).length], .cells 1 false d3 ((keepE (elemsS s)).map .str)], .tuple [],
      b0 = recS ∧ d1 = .str [] ∧ d2 = .nils ∧ d3 = .str [] ∧ n = 0 ∧ m = 0 ∧ c = [] ∧ s.length ≤ 100000000)
  | _, _ => none
theorem tb_elementsF_ok : ∀ E args E' res q, tb_elementsF E args = some (E', res, q) → q → SpecE Tryz.prog 106 E args E' res := by
  intro E args E' res q h hq
  unfold tb_elementsF at h
  split at h
  · simp only [Option.some.injEq, Prod.mk.injEq] at h
    obtain ⟨rfl, rfl, rfl⟩ := h
    obtain ⟨rfl, rfl, rfl, rfl, rfl, rfl, rfl, h3⟩ := hq
    have := specElementsF _ [] h3 (by decide)
    simpa using this
  · cases h
def eT : Tbl := addT nilT 106 tb_elementsF
theorem eT_ok : TblOK Tryz.prog eT := addT_ok nilT_ok (by decide +kernel) tb_elementsF_ok
def T_specSplit : Tbl := fun g E args => (addT (addT (addT eT 64 Go.Proofs.Tryz.Lists.tb_specEnds) 66 Go.Proofs.Tryz.Oct.tb_specTrim) 65 Go.Proofs.Tryz.Lists.tb_specElements) g E args
theorem T_specSplit_ok : TblOK Tryz.prog T_specSplit := (addT_ok (addT_ok (addT_ok eT_ok (by decide +kernel) Go.Proofs.Tryz.Lists.tb_specEnds_ok) (by decide +kernel) Go.Proofs.Tryz.Oct.tb_specTrim_ok) (by decide +kernel) Go.Proofs.Tryz.Lists.tb_specElements_ok)
set_option maxRecDepth 100000 in
set_option maxHeartbeats 4000000 in
theorem specSplit (s : List UInt8) (hs : s.length ≤ 100000000) : SpecE Tryz.prog 31 [] [.str s] [] (.tuple [enc_strs (splitS s), .bool (endsS s)]) := by
  refine specFEM (C := T_specSplit) (wr := false) (D := DS) (U := fun _ => none) (E := []) (E' := []) (res := [enc_strs (splitS s), .bool (endsS s)]) [] Tryz.Ty.mixed T_specSplit_ok Tryz.func31 (args := [.str s]) (nE := 0) (nA := 1) (by decide +kernel) rfl rfl ?_
  simp only [Tryz.f31, bodyOf, rlOf]
  rw [W_V]
  simp (config := {maxSteps := 2000000}) only [T_specSplit, Go.Proofs.Tryz.Lists.tb_specEnds, Go.Proofs.Tryz.Oct.tb_specTrim, Go.Proofs.Tryz.Lists.tb_specElements, go_sem, seval, eT, tb_elementsF, recS, FinEM, FinEvM]
  (try simp (config := {maxSteps := 2000000}) only [gimp, impB, isT, go_sem, seval])
  refine ⟨hs, fun h => ⟨by simp [splitS, h], h.symm⟩, fun h => ?_⟩
  refine VR_intro ⟨[(10, .clo 106 0 [.ptr 176 0 0 1]), (4, .ptr 80 0 0 1)], [(176, .cells 1 false (.str []) [.str s]), (80, .cells 1 false .nils [.ref 320 0 0 0]), (320, .cells 1 false (.str []) [])]⟩ lcS ?_ rfl rfl rfl rfl ?_
  · simp only [go_sem, go_sem, seval]
  simp (config := {maxSteps := 2000000}) only [T_specSplit, Go.Proofs.Tryz.Lists.tb_specEnds, Go.Proofs.Tryz.Oct.tb_specTrim, Go.Proofs.Tryz.Lists.tb_specElements, go_sem, seval, eT, tb_elementsF, recS, FinEM, FinEvM]
  (try simp (config := {maxSteps := 2000000}) only [gimp, impB, isT, go_sem, seval])
  refine ⟨by decide +kernel, hs, ⟨?_, h.symm⟩, fun b hb => by cases hb; rfl⟩
  rw [List.take_length, splitS, if_pos h]
def tb_specSplit : List Blk → List AV → Option (List Blk × AV × Prop)
  | [], [.str s] => some ([], .tuple [enc_strs (splitS s), .bool (endsS s)], (s.length ≤ 100000000))
  | _, _ => none
theorem tb_specSplit_ok : ∀ E args E' res p, tb_specSplit E args = some (E', res, p) → p → SpecE Tryz.prog 31 E args E' res := by
  intro E args E' res p h hp
  unfold tb_specSplit at h
  split at h
  · simp only [Option.some.injEq, Prod.mk.injEq] at h
    obtain ⟨rfl, rfl, rfl⟩ := h
    exact (specSplit _ hp)
  · cases h
def T_specHasP : Tbl := fun g E args => (addT nilT 35 Go.Proofs.Tryz.Oct.tb_specFold) g E args
theorem T_specHasP_ok : TblOK Tryz.prog T_specHasP := (addT_ok nilT_ok (by decide +kernel) Go.Proofs.Tryz.Oct.tb_specFold_ok)
set_option maxRecDepth 100000 in
set_option maxHeartbeats 4000000 in
theorem specHasP (e w : List UInt8) (hs : e.length ≤ maxLen) : SpecE Tryz.prog 126 [.cells 1 false (.str []) [.str w]] [.str e, .ptr 0 0 0 1] [.cells 1 false (.str []) [.str w]] (.bool (foldS e w)) := by
  refine specFE (C := T_specHasP) (wr := false) (D := fun _ => []) (U := fun _ => none) (E := [.cells 1 false (.str []) [.str w]]) (E' := [.cells 1 false (.str []) [.str w]]) (res := [.bool (foldS e w)]) [] Tryz.Ty.mixed T_specHasP_ok Tryz.func126 (args := [.str e, .ptr 0 0 0 1]) (nE := 1) (nA := 2) (by decide +kernel) rfl rfl ?_
  simp only [Tryz.f126, bodyOf, rlOf]
  rw [W_V]
  simp (config := {maxSteps := 2000000}) only [T_specHasP, Go.Proofs.Tryz.Oct.tb_specFold, go_sem, seval]
  (try simp (config := {maxSteps := 2000000}) only [gimp, impB, isT, go_sem, seval])
  exact hs
set_option maxRecDepth 100000 in
set_option maxHeartbeats 4000000 in
theorem specHasF (l : List (List UInt8)) (w : List UInt8) (hl : l.length ≤ maxLen) (hq : ∀ x ∈ l, x.length ≤ maxLen) : SpecE Tryz.prog 125 [.cells 1 false (.str []) [.str w]] [enc_strs l, .clo 126 0 [.ptr 0 0 0 1]] [.cells 1 false (.str []) [.str w]] (.bool (l.any fun e => foldS e w)) := by
  exact Slc.has_S (by decide) (boxStr w) (fun _ => rfl) (q := fun x => x.length ≤ maxLen) (fun x hx => specHasP x w hx) l hq hl
def tb_specHasF : List Blk → List AV → Option (List Blk × AV × Prop)
  | [.cells 1 false d [.str w]], [a0, .clo 126 0 [.ptr 0 0 0 1]] => some ([.cells 1 false (.str []) [.str w]], .bool ((dec_strs a0).any fun e => foldS e w), (d = .str []) ∧ ((dec_strs a0).length ≤ maxLen) ∧ (∀ x ∈ (dec_strs a0), x.length ≤ maxLen) ∧ argOK a0 (enc_strs (dec_strs a0)))
  | _, _ => none
theorem tb_specHasF_ok : ∀ E args E' res p, tb_specHasF E args = some (E', res, p) → p → SpecE Tryz.prog 125 E args E' res := by
  intro E args E' res p h hp
  unfold tb_specHasF at h
  split at h
  · simp only [Option.some.injEq, Prod.mk.injEq] at h
    obtain ⟨rfl, rfl, rfl⟩ := h
    obtain ⟨rfl, hp⟩ := hp
    exact SpecE.args (specHasF _ _ hp.1 hp.2.1) (.cons hp.2.2 (.cons (argOK.refl _) .nil))
  · cases h
def T_specHas : Tbl := fun g E args => (addT (addT nilT 31 Go.Proofs.Tryz.Lists.tb_specSplit) 125 Go.Proofs.Tryz.Lists.tb_specHasF) g E args
theorem T_specHas_ok : TblOK Tryz.prog T_specHas := (addT_ok (addT_ok nilT_ok (by decide +kernel) Go.Proofs.Tryz.Lists.tb_specSplit_ok) (by decide +kernel) Go.Proofs.Tryz.Lists.tb_specHasF_ok)
set_option maxRecDepth 100000 in
set_option maxHeartbeats 4000000 in
theorem specHas (s w : List UInt8) (hs : s.length ≤ 100000000) : SpecE Tryz.prog 88 [] [.str s, .str w] [] (.bool (hasS s w)) := by
  refine specF0 (C := T_specHas) (wr := false) (D := fun _ => []) (U := fun _ => none) (res := [.bool (hasS s w)]) Tryz.Ty.mixed T_specHas_ok Tryz.func88 (nA := 2) (by decide +kernel) rfl (fun _ => rfl) ?_
  simp only [Tryz.f88, bodyOf, rlOf]
  rw [W_V]
  simp (config := {maxSteps := 2000000}) only [T_specHas, Go.Proofs.Tryz.Lists.tb_specSplit, Go.Proofs.Tryz.Lists.tb_specHasF, go_sem, seval]
  (try simp (config := {maxSteps := 2000000}) only [gimp, impB, isT, go_sem, seval])
  have hc := splitS_count s
  have hm : (100000001 : Nat) ≤ maxLen := by decide
  exact ⟨hs, ⟨by omega, fun x hx => by have := (splitS_mem hx).1; omega⟩, rfl⟩
def tb_specHas : List Blk → List AV → Option (List Blk × AV × Prop)
  | [], [.str s, .str w] => some ([], .bool (hasS s w), (s.length ≤ 100000000))
  | _, _ => none
theorem tb_specHas_ok : ∀ E args E' res p, tb_specHas E args = some (E', res, p) → p → SpecE Tryz.prog 88 E args E' res := by
  intro E args E' res p h hp
  unfold tb_specHas at h
  split at h
  · simp only [Option.some.injEq, Prod.mk.injEq] at h
    obtain ⟨rfl, rfl, rfl⟩ := h
    exact (specHas _ _ hp)
  · cases h
def T_specJoin : Tbl := fun g E args => (addT nilT 46 Go.Proofs.Tryz.Lib.tb_specJoin) g E args
theorem T_specJoin_ok : TblOK Tryz.prog T_specJoin := (addT_ok nilT_ok (by decide +kernel) Go.Proofs.Tryz.Lib.tb_specJoin_ok)
set_option maxRecDepth 100000 in
set_option maxHeartbeats 4000000 in
theorem specJoin (l : List (List UInt8)) (hn : l.length ≤ 1000000) (hj : (Lib.join l [44, 32]).length ≤ 140737488355328) : SpecE Tryz.prog 63 [] [enc_strs l] [] (.str (Lib.join l [44, 32])) := by
  refine specF0 (C := T_specJoin) (wr := false) (D := fun _ => []) (U := fun _ => none) (res := [.str (Lib.join l [44, 32])]) Tryz.Ty.mixed T_specJoin_ok Tryz.func63 (nA := 1) (by decide +kernel) rfl (fun _ => rfl) ?_
  simp only [Tryz.f63, bodyOf, rlOf]
  rw [W_V]
  simp (config := {maxSteps := 2000000}) only [T_specJoin, Go.Proofs.Tryz.Lib.tb_specJoin, go_sem, seval]
  (try simp (config := {maxSteps := 2000000}) only [gimp, impB, isT, go_sem, seval])
  exact ⟨hn, hj⟩
def tb_specJoin : List Blk → List AV → Option (List Blk × AV × Prop)
  | [], [a0] => some ([], .str (Lib.join (dec_strs a0) [44, 32]), ((dec_strs a0).length ≤ 1000000) ∧ ((Lib.join (dec_strs a0) [44, 32]).length ≤ 140737488355328) ∧ argOK a0 (enc_strs (dec_strs a0)))
  | _, _ => none
theorem tb_specJoin_ok : ∀ E args E' res p, tb_specJoin E args = some (E', res, p) → p → SpecE Tryz.prog 63 E args E' res := by
  intro E args E' res p h hp
  unfold tb_specJoin at h
  split at h
  · simp only [Option.some.injEq, Prod.mk.injEq] at h
    obtain ⟨rfl, rfl, rfl⟩ := h
    exact SpecE.args (specJoin _ hp.1 hp.2.1) (.cons hp.2.2 .nil)
  · cases h
end Go.Proofs.Tryz.Lists
end
section
set_option linter.unusedVariables false
set_option linter.unusedSimpArgs false
namespace Go.Mdl
open Go Go.Abs
theorem join_eq : ∀ l : List (List UInt8), Lib.join l [44, 32] = joinS l
  | [] => rfl
  | [a] => by simp [Lib.join, joinS, List.intercalate]
  | a :: b :: r => by
    have ih := join_eq (b :: r)
    simp only [Lib.join, List.intercalate, List.intersperse, List.flatten_cons, joinS] at ih ⊢
    rw [ih]; simp
end Go.Mdl
namespace Go.Proofs.Tryz.Lists
open Go Go.Abs Go.Proofs Go.Mdl
end Go.Proofs.Tryz.Lists
end
section
set_option linter.unusedVariables false
set_option linter.unusedSimpArgs false
namespace Go.Mdl
open Go Go.Abs
def isN (names : List (List UInt8)) (f : Fld) : Bool := names.any fun n => foldS n f.1
def allS (l : List Fld) (name : List UInt8) : List (List UInt8) := (l.filter (isN [name])).map (·.2)
def combS (l : List Fld) (name : List UInt8) : List UInt8 := joinS (allS l name)
def withS (l : List Fld) (n v : List UInt8) : List Fld := l ++ [(n, v)]
def getS (l : List Fld) (name : List UInt8) : List UInt8 := (allS l name).headD []
def hasF (l : List Fld) (name : List UInt8) : Bool := l.any (isN [name])
theorem isN_one (n : List UInt8) (f : Fld) : isN [n] f = foldS n f.1 := by simp [isN]
theorem allS_take_succ {l : List Fld} {k : Nat} (n : List UInt8) (h : k < l.length) : allS (l.take (k + 1)) n = allS (l.take k) n ++ if isN [n] (l.getD k ([], [])) = true then [(l.getD k ([], [])).2] else [] := by
  rw [take_succ_getD ([], []) h]
  simp only [allS, List.filter_append, List.map_append]
  congr 1
  by_cases hh : isN [n] (l.getD k ([], [])) = true
  · rw [if_pos hh, List.filter_cons_of_pos hh]; rfl
  · rw [if_neg hh, List.filter_cons_of_neg hh]; rfl
theorem allS_len (l : List Fld) (n : List UInt8) : (allS l n).length ≤ l.length := by
  have := List.length_filter_le (isN [n]) l
  simpa [allS] using this
theorem allS_mem {l : List Fld} {n e : List UInt8} (h : e ∈ allS l n) : ∃ f ∈ l, e = f.2 ∧ isN [n] f = true := by
  simp only [allS, List.mem_map, List.mem_filter] at h
  obtain ⟨f, ⟨h1, h2⟩, rfl⟩ := h
  exact ⟨f, h1, rfl, h2⟩
theorem hasF_iff (l : List Fld) (n : List UInt8) : hasF l n = !decide (allS l n = []) := by
  cases h : hasF l n with
  | true =>
    obtain ⟨f, hf, h2⟩ := List.any_eq_true.1 h
    have : f.2 ∈ allS l n := by simp only [allS, List.mem_map, List.mem_filter]; exact ⟨f, ⟨hf, h2⟩, rfl⟩
    have hne : allS l n ≠ [] := fun e => by rw [e] at this; simp at this
    simp [hne]
  | false =>
    have : l.filter (isN [n]) = [] := by
      rw [List.filter_eq_nil_iff]
      intro f hf
      have := List.any_eq_false.1 h f hf
      exact this
    simp [allS, this]
end Go.Mdl
end
section
set_option linter.unusedVariables false
set_option linter.unusedSimpArgs false
namespace Go.Mdl
open Go Go.Abs
abbrev Dir := List UInt8 × List UInt8 × Bool
def dir0 : Dir := ([], [], false)
def enc_dir (d : Dir) : AV := .agg [.str d.1, .str d.2.1, .bool d.2.2]
def toBoo : AV → Bool
  | .bool b => b
  | _ => false
def dec_dir : AV → Dir
  | .agg [a, b, c] => (toStr a, toStr b, toBoo c)
  | _ => dir0
def enc_dirs (l : List Dir) : AV := .list 3 (l.map enc_dir)
def dec_dirs (a : AV) : List Dir := (listOf a).map dec_dir
theorem dec_enc_dir (d : Dir) : dec_dir (enc_dir d) = d := rfl
theorem getD_map_dir (l : List Dir) (n : Nat) : (l.map enc_dir).getD n (.agg [.str [], .str [], .bool false]) = enc_dir (l.getD n dir0) := by
  simp only [List.getD_eq_getElem?_getD, List.getElem?_map]; cases l[n]? <;> rfl
theorem map_dir (l : List Dir) : (l.map enc_dir).map dec_dir = l := by simp [List.map_map, Function.comp_def, dec_enc_dir]
theorem pure_dir (p : Dir) : pureBL (enc_dir p).cells = true := rfl
theorem pids_dir (p : Dir) : pids (enc_dir p) = [] := rfl
theorem ren_dir (σ : Nat → Nat) (p : Dir) : ren σ (enc_dir p) = enc_dir p := rfl
theorem ref_dir (p : Dir) : refOf (enc_dir p) = none := rfl
theorem cells_dir (p : Dir) : (enc_dir p).cells = [.str p.1, .str p.2.1, .bool p.2.2] := rfl
theorem pureEl_dir (l : List Dir) : pureEl (l.map enc_dir) = true := pureEl_map enc_dir l (fun _ => rfl)
theorem oneRef_dir (l : List Dir) : oneRef (l.map enc_dir) = none := oneRef_map (fun _ => rfl) l
theorem pidsL_dir (l : List Dir) : pidsL (l.map enc_dir) = [] := pidsL_map (fun _ => rfl) l
theorem renL_dir (σ : Nat → Nat) (l : List Dir) : (l.map enc_dir).map (ren σ) = l.map enc_dir := ren_map (fun _ => rfl) l
attribute [go_sem] toBoo enc_dir pureEl_dir oneRef_dir pidsL_dir renL_dir cells_dir getD_map_dir map_dir pure_dir pids_dir ren_dir ref_dir enc_dirs dec_dirs
def dirN (s : List UInt8) : Nat := spanL tcharB s
def dirSet (s : List UInt8) : Bool := decide ((s.drop (dirN s)).head? = some 61)
def dirR (s : List UInt8) : List UInt8 := s.drop (dirN s + 1)
def dirV (s : List UInt8) : List UInt8 := if dirSet s = true then (if spanL tcharB (dirR s) = 0 then qText (dirR s) else (dirR s).take (spanL tcharB (dirR s))) else []
def dirEnd (s : List UInt8) : Nat := if dirSet s = true then dirN s + 1 + (if spanL tcharB (dirR s) = 0 then qLen (dirR s) else spanL tcharB (dirR s)) else dirN s
def dirQ (s : List UInt8) : Bool := if dirSet s = true then (if spanL tcharB (dirR s) = 0 then qHas (dirR s) else true) else true
def dirOk (s : List UInt8) : Bool := dirQ s && (!decide (dirN s = 0) && decide (s.drop (dirEnd s) = []))
def dirS (s : List UInt8) : Dir := (lowerS (s.take (dirN s)), dirV s, dirSet s)
def dirsOk (s : List UInt8) : Bool := endsS s && (splitS s).all dirOk
def dirsS (s : List UInt8) : List Dir := if dirsOk s = true then (splitS s).map dirS else []
def nmCC : List UInt8 := [67, 97, 99, 104, 101, 45, 67, 111, 110, 116, 114, 111, 108]
def ctlS (l : List Fld) : List Dir := dirsS (combS l nmCC)
def dirIs (n : List UInt8) (d : Dir) : Bool := decide (d.1 = lowerS n)
def ctlHas (l : List Fld) (n : List UInt8) : Bool := (ctlS l).any (dirIs n)
def wdAge : List UInt8 := [109, 97, 120, 45, 97, 103, 101]
def ageV (l : List Fld) : List UInt8 := ((ctlS l).getD ((ctlS l).findIdx (dirIs wdAge)) dir0).2.1
def ageN (l : List Fld) : Int := if ctlHas l wdAge = true then (if numErr 10 2147483647 (ageV l) = 5 then 2147483647 else numVal 10 2147483647 (ageV l)) else 0
def ageOk (l : List Fld) : Bool := ctlHas l wdAge && (decide (numErr 10 2147483647 (ageV l) = 5) || decide (numErr 10 2147483647 (ageV l) = 0))
def pragS (l : List Fld) : Bool := hasS (combS l [80, 114, 97, 103, 109, 97]) [110, 111, 45, 99, 97, 99, 104, 101]
theorem dirN_le (s : List UInt8) : dirN s ≤ s.length := spanL_le _ _
theorem dirSet_lt {s : List UInt8} (h : dirSet s = true) : dirN s + 1 ≤ s.length := head_lt (by simpa [dirSet] using h)
theorem dirV_len (s : List UInt8) : (dirV s).length ≤ s.length := by
  unfold dirV
  split
  · rename_i h
    have h2 : (dirR s).length ≤ s.length := by simp [dirR]
    split
    · have := qText_len (dirR s); have := qLen_le (dirR s); omega
    · rw [List.length_take]; omega
  · simp
theorem dirS_len {s : List UInt8} : (dirS s).1.length ≤ s.length ∧ (dirS s).2.1.length ≤ s.length := by
  refine ⟨?_, dirV_len s⟩
  simp only [dirS, lowerS_len, List.length_take]; omega
theorem dirsS_mem {s : List UInt8} {d : Dir} (h : d ∈ dirsS s) : ∃ e ∈ splitS s, dirOk e = true ∧ d = dirS e := by
  unfold dirsS at h
  split at h
  · rename_i ho
    simp only [dirsOk, Bool.and_eq_true, List.all_eq_true] at ho
    obtain ⟨e, he, rfl⟩ := List.mem_map.1 h
    exact ⟨e, he, ho.2 e he, rfl⟩
  · cases h
theorem dirsS_count (s : List UInt8) : (dirsS s).length ≤ s.length + 1 := by
  unfold dirsS
  split
  · rw [List.length_map]; exact splitS_count s
  · simp
end Go.Mdl
end
section
set_option linter.unusedVariables false
set_option linter.unusedSimpArgs false
namespace Go.Proofs.Tryz.Hdt
open Go Go.Abs Go.Proofs Go.Mdl
def T_specDaysH : Tbl := fun g E args => nilT g E args
theorem T_specDaysH_ok : TblOK Tryz.prog T_specDaysH := nilT_ok
set_option maxRecDepth 100000 in
set_option maxHeartbeats 4000000 in
theorem specDaysH : SpecE Tryz.prog 138 [] [] [] (.agg (hdDays.map .str)) := by
  refine specF0 (C := T_specDaysH) (wr := false) (D := fun _ => []) (U := fun _ => none) (res := [.agg (hdDays.map .str)]) Tryz.Ty.mixed T_specDaysH_ok Tryz.func138 (nA := 0) (by decide +kernel) rfl (fun _ => rfl) ?_
  simp only [Tryz.f138, bodyOf, rlOf]
  rw [W_V]
  simp (config := {maxSteps := 2000000}) only [T_specDaysH, go_sem, seval, hdDays]
  (try simp (config := {maxSteps := 2000000}) only [gimp, impB, isT, go_sem, seval])
def tb_specDaysH : List Blk → List AV → Option (List Blk × AV × Prop)
  | [], [] => some ([], .agg (hdDays.map .str), True)
  | _, _ => none
theorem tb_specDaysH_ok : ∀ E args E' res p, tb_specDaysH E args = some (E', res, p) → p → SpecE Tryz.prog 138 E args E' res := by
  intro E args E' res p h hp
  unfold tb_specDaysH at h
  split at h
  · simp only [Option.some.injEq, Prod.mk.injEq] at h
    obtain ⟨rfl, rfl, rfl⟩ := h
    exact specDaysH
  · cases h
def T_specMonthsH : Tbl := fun g E args => nilT g E args
theorem T_specMonthsH_ok : TblOK Tryz.prog T_specMonthsH := nilT_ok
set_option maxRecDepth 100000 in
set_option maxHeartbeats 4000000 in
theorem specMonthsH : SpecE Tryz.prog 141 [] [] [] (.agg (hdMonths.map .str)) := by
  refine specF0 (C := T_specMonthsH) (wr := false) (D := fun _ => []) (U := fun _ => none) (res := [.agg (hdMonths.map .str)]) Tryz.Ty.mixed T_specMonthsH_ok Tryz.func141 (nA := 0) (by decide +kernel) rfl (fun _ => rfl) ?_
  simp only [Tryz.f141, bodyOf, rlOf]
  rw [W_V]
  simp (config := {maxSteps := 2000000}) only [T_specMonthsH, go_sem, seval, hdMonths]
  (try simp (config := {maxSteps := 2000000}) only [gimp, impB, isT, go_sem, seval])
def tb_specMonthsH : List Blk → List AV → Option (List Blk × AV × Prop)
  | [], [] => some ([], .agg (hdMonths.map .str), True)
  | _, _ => none
theorem tb_specMonthsH_ok : ∀ E args E' res p, tb_specMonthsH E args = some (E', res, p) → p → SpecE Tryz.prog 141 E args E' res := by
  intro E args E' res p h hp
  unfold tb_specMonthsH at h
  split at h
  · simp only [Option.some.injEq, Prod.mk.injEq] at h
    obtain ⟨rfl, rfl, rfl⟩ := h
    exact specMonthsH
  · cases h
def T_specWord : Tbl := fun g E args => (addT nilT 81 Go.Proofs.Tryz.Lib.tb_specHasPrefix) g E args
theorem T_specWord_ok : TblOK Tryz.prog T_specWord := (addT_ok nilT_ok (by decide +kernel) Go.Proofs.Tryz.Lib.tb_specHasPrefix_ok)
set_option maxRecDepth 100000 in
set_option maxHeartbeats 4000000 in
theorem specWord (s : List UInt8) (y mo d h mi se week : Int) (two bad : Bool) (l : List (List UInt8)) (hl : l.length ≤ 1000) (hs : s.length ≤ 1000000) : SpecE Tryz.prog 211 [.cells 10 false rz [.agg [.str s, .int .i64 y, .int .i64 mo, .int .i64 d, .int .i64 h, .int .i64 mi, .int .i64 se, .int .i64 week, .bool two, .bool bad]]] [.ptr 0 0 0 1, enc_strs l] [.cells 10 false rz [.agg [.str (wdS l s), .int .i64 y, .int .i64 mo, .int .i64 d, .int .i64 h, .int .i64 mi, .int .i64 se, .int .i64 week, .bool two, .bool (bad || wdB l s)]]] (.int .i64 (wdN l s)) := by
  refine specFE (C := T_specWord) (wr := false) (D := fun _ => []) (U := fun _ => none) (E := [.cells 10 false rz [.agg [.str s, .int .i64 y, .int .i64 mo, .int .i64 d, .int .i64 h, .int .i64 mi, .int .i64 se, .int .i64 week, .bool two, .bool bad]]]) (E' := [.cells 10 false rz [.agg [.str (wdS l s), .int .i64 y, .int .i64 mo, .int .i64 d, .int .i64 h, .int .i64 mi, .int .i64 se, .int .i64 week, .bool two, .bool (bad || wdB l s)]]]) (res := [.int .i64 (wdN l s)]) [] Tryz.Ty.mixed T_specWord_ok Tryz.func211 (args := [.ptr 0 0 0 1, enc_strs l]) (nE := 1) (nA := 2) (by decide +kernel) rfl rfl ?_
  simp only [Tryz.f211, bodyOf, rlOf]
  rw [W_V]
  simp (config := {maxSteps := 2000000}) only [T_specWord, Go.Proofs.Tryz.Lib.tb_specHasPrefix, go_sem, seval, rz]
  (try simp (config := {maxSteps := 2000000}) only [gimp, impB, isT, go_sem, seval])
  refine VL_inv (X := Nat) (fun k => ⟨[(0, .ptr 0 0 0 1), (7, enc_strs l), (8, .int .i64 l.length), (9, .int .i64 k)], [(0, .cells 10 false rz [.agg [.str s, .int .i64 y, .int .i64 mo, .int .i64 d, .int .i64 h, .int .i64 mi, .int .i64 se, .int .i64 week, .bool two, .bool bad]])]⟩) (fun k => k ≤ l.length ∧ (l.take k).any (fun w => Lib.hasPrefix s w) = false) (fun k => l.length - k) 0 ?_ ?_ ?_
  · simp only [rz, go_sem, go_sem, seval]
    try rfl
  · exact ⟨Nat.zero_le _, by simp⟩
  rintro k ⟨hk, hn⟩
  simp (config := {maxSteps := 2000000}) only [T_specWord, Go.Proofs.Tryz.Lib.tb_specHasPrefix, go_sem, seval, rz]
  (try simp (config := {maxSteps := 2000000}) only [gimp, impB, isT, go_sem, seval])
  have hout := fun h : k < l.length => any_take_succ (p := fun w => Lib.hasPrefix s w) (l := l) [] h hn
  refine ⟨fun hlt => ⟨by omega, fun hp => ?_, fun hp => ⟨by omega, k + 1, by omega, ⟨by omega, ?_⟩, by omega⟩⟩, fun hge => ?_⟩
  · obtain ⟨h1, h2⟩ := word_hit (by omega) hn hp
    have hl2 := prefix_len hp
    have eS : wdS l s = s.drop (l.getD k []).length := by rw [wdS, if_pos h1, h2]
    have eB : wdB l s = false := by rw [wdB, h1]; rfl
    have eN : wdN l s = (k : Int) := by rw [wdN, if_pos h1, h2]
    rw [eS, eB, eN]
    refine ⟨⟨by omega, by omega⟩, ?_⟩
    simp
  · rw [hout (by omega)]; exact hp
  · rw [List.take_of_length_le (by omega)] at hn
    have h1 : wHit l s = false := hn
    have eS : wdS l s = s := by rw [wdS, h1]; rfl
    have eB : wdB l s = true := by rw [wdB, h1]; rfl
    have eN : wdN l s = 0 := by rw [wdN, h1]; rfl
    rw [eS, eB, eN]
    simp
def tb_specWord : List Blk → List AV → Option (List Blk × AV × Prop)
  | [.cells 10 false z [.agg [.str s, .int .i64 y, .int .i64 mo, .int .i64 d, .int .i64 h, .int .i64 mi, .int .i64 se, .int .i64 week, .bool two, .bool bad]]], [.ptr 0 0 0 1, a1] => some ([.cells 10 false rz [.agg [.str (wdS (dec_strs a1) s), .int .i64 y, .int .i64 mo, .int .i64 d, .int .i64 h, .int .i64 mi, .int .i64 se, .int .i64 week, .bool two, .bool (bad || wdB (dec_strs a1) s)]]], .int .i64 (wdN (dec_strs a1) s), (z = rz) ∧ ((dec_strs a1).length ≤ 1000) ∧ (s.length ≤ 1000000) ∧ argOK a1 (enc_strs (dec_strs a1)))
  | _, _ => none
theorem tb_specWord_ok : ∀ E args E' res p, tb_specWord E args = some (E', res, p) → p → SpecE Tryz.prog 211 E args E' res := by
  intro E args E' res p h hp
  unfold tb_specWord at h
  split at h
  · simp only [Option.some.injEq, Prod.mk.injEq] at h
    obtain ⟨rfl, rfl, rfl⟩ := h
    obtain ⟨rfl, hp⟩ := hp
    exact SpecE.args (specWord _ _ _ _ _ _ _ _ _ _ _ hp.1 hp.2.1) (.cons (argOK.refl _) (.cons hp.2.2 .nil))
  · cases h
def T_specNum : Tbl := fun g E args => (addT nilT 121 Go.Proofs.Tryz.Dig.tb_specDec) g E args
theorem T_specNum_ok : TblOK Tryz.prog T_specNum := (addT_ok nilT_ok (by decide +kernel) Go.Proofs.Tryz.Dig.tb_specDec_ok)
set_option maxRecDepth 100000 in
set_option maxHeartbeats 4000000 in
theorem specNum (s : List UInt8) (y mo d h mi se week : Int) (two bad : Bool) (w : Int) (hw : 0 ≤ w ∧ w ≤ 1000) (hs : s.length ≤ 1000000) : SpecE Tryz.prog 212 [.cells 10 false rz [.agg [.str s, .int .i64 y, .int .i64 mo, .int .i64 d, .int .i64 h, .int .i64 mi, .int .i64 se, .int .i64 week, .bool two, .bool bad]]] [.ptr 0 0 0 1, .int .i64 w] [.cells 10 false rz [.agg [.str (nmS w.toNat s), .int .i64 y, .int .i64 mo, .int .i64 d, .int .i64 h, .int .i64 mi, .int .i64 se, .int .i64 week, .bool two, .bool (bad || nmB w.toNat s)]]] (.int .i64 (nmN w.toNat s)) := by
  refine specFE (C := T_specNum) (wr := false) (D := fun _ => []) (U := fun _ => none) (E := [.cells 10 false rz [.agg [.str s, .int .i64 y, .int .i64 mo, .int .i64 d, .int .i64 h, .int .i64 mi, .int .i64 se, .int .i64 week, .bool two, .bool bad]]]) (E' := [.cells 10 false rz [.agg [.str (nmS w.toNat s), .int .i64 y, .int .i64 mo, .int .i64 d, .int .i64 h, .int .i64 mi, .int .i64 se, .int .i64 week, .bool two, .bool (bad || nmB w.toNat s)]]]) (res := [.int .i64 (nmN w.toNat s)]) [] Tryz.Ty.mixed T_specNum_ok Tryz.func212 (args := [.ptr 0 0 0 1, .int .i64 w]) (nE := 1) (nA := 2) (by decide +kernel) rfl rfl ?_
  simp only [Tryz.f212, bodyOf, rlOf]
  rw [W_V]
  simp (config := {maxSteps := 2000000}) only [T_specNum, Go.Proofs.Tryz.Dig.tb_specDec, go_sem, seval, rz]
  (try simp (config := {maxSteps := 2000000}) only [gimp, impB, isT, go_sem, seval])
  obtain ⟨n, rfl⟩ : ∃ n : Nat, w = n := ⟨w.toNat, by omega⟩
  simp only [Int.toNat_natCast]
  by_cases hlt : s.length < n
  · have eS : nmS n s = s := by rw [nmS, if_pos hlt]
    have eB : nmB n s = true := by rw [nmB, decide_eq_true hlt]; rfl
    have eN : nmN n s = 0 := by rw [nmN, if_pos hlt]
    rw [eS, eB, eN]
    refine ⟨fun _ => by simp, fun h => by omega⟩
  · have eS : nmS n s = s.drop n := by rw [nmS, if_neg hlt]
    have eB : nmB n s = !decide (numErr 10 9999 (s.take n) = 0) := by rw [nmB, decide_eq_false hlt]; rfl
    have eN : nmN n s = numVal 10 9999 (s.take n) := by rw [nmN, if_neg hlt]
    rw [eS, eB, eN]
    refine ⟨fun h => by omega, fun _ => ⟨by omega, by omega, rfl, rfl, rfl⟩⟩
def tb_specNum : List Blk → List AV → Option (List Blk × AV × Prop)
  | [.cells 10 false z [.agg [.str s, .int .i64 y, .int .i64 mo, .int .i64 d, .int .i64 h, .int .i64 mi, .int .i64 se, .int .i64 week, .bool two, .bool bad]]], [.ptr 0 0 0 1, .int .i64 w] => some ([.cells 10 false rz [.agg [.str (nmS w.toNat s), .int .i64 y, .int .i64 mo, .int .i64 d, .int .i64 h, .int .i64 mi, .int .i64 se, .int .i64 week, .bool two, .bool (bad || nmB w.toNat s)]]], .int .i64 (nmN w.toNat s), (z = rz) ∧ (0 ≤ w ∧ w ≤ 1000) ∧ (s.length ≤ 1000000))
  | _, _ => none
theorem tb_specNum_ok : ∀ E args E' res p, tb_specNum E args = some (E', res, p) → p → SpecE Tryz.prog 212 E args E' res := by
  intro E args E' res p h hp
  unfold tb_specNum at h
  split at h
  · simp only [Option.some.injEq, Prod.mk.injEq] at h
    obtain ⟨rfl, rfl, rfl⟩ := h
    obtain ⟨rfl, hp⟩ := hp
    exact (specNum _ _ _ _ _ _ _ _ _ _ _ hp.1 hp.2)
  · cases h
end Go.Proofs.Tryz.Hdt
end
section
set_option linter.unusedVariables false
set_option linter.unusedSimpArgs false
namespace Go.Proofs.Tryz.Hdt
open Go Go.Abs Go.Proofs Go.Mdl
def T_specPartW3 : Tbl := fun g E args => (addT (addT (addT (addT (addT nilT 211 Go.Proofs.Tryz.Hdt.tb_specWord) 212 Go.Proofs.Tryz.Hdt.tb_specNum) 138 Go.Proofs.Tryz.Hdt.tb_specDaysH) 141 Go.Proofs.Tryz.Hdt.tb_specMonthsH) 81 Go.Proofs.Tryz.Lib.tb_specHasPrefix) g E args
theorem T_specPartW3_ok : TblOK Tryz.prog T_specPartW3 := (addT_ok (addT_ok (addT_ok (addT_ok (addT_ok nilT_ok (by decide +kernel) Go.Proofs.Tryz.Hdt.tb_specWord_ok) (by decide +kernel) Go.Proofs.Tryz.Hdt.tb_specNum_ok) (by decide +kernel) Go.Proofs.Tryz.Hdt.tb_specDaysH_ok) (by decide +kernel) Go.Proofs.Tryz.Hdt.tb_specMonthsH_ok) (by decide +kernel) Go.Proofs.Tryz.Lib.tb_specHasPrefix_ok)
set_option maxRecDepth 100000 in
set_option maxHeartbeats 4000000 in
theorem specPartW3 (s : List UInt8) (y mo d h mi se week : Int) (two bad : Bool) (hs : s.length ≤ 1000000) : SpecE Tryz.prog 193 [.cells 10 false rz [.agg [.str s, .int .i64 y, .int .i64 mo, .int .i64 d, .int .i64 h, .int .i64 mi, .int .i64 se, .int .i64 week, .bool two, .bool bad]]] [.ptr 0 0 0 1, .int .i32 119] [.cells 10 false rz [.agg [.str (wdS hdDays3 s), .int .i64 y, .int .i64 mo, .int .i64 d, .int .i64 h, .int .i64 mi, .int .i64 se, .int .i64 (wdN hdDays3 s), .bool two, .bool (bad || wdB hdDays3 s)]]] (.tuple []) := by
  refine specFE (C := T_specPartW3) (wr := false) (D := fun _ => []) (U := fun _ => none) (E := [.cells 10 false rz [.agg [.str s, .int .i64 y, .int .i64 mo, .int .i64 d, .int .i64 h, .int .i64 mi, .int .i64 se, .int .i64 week, .bool two, .bool bad]]]) (E' := [.cells 10 false rz [.agg [.str (wdS hdDays3 s), .int .i64 y, .int .i64 mo, .int .i64 d, .int .i64 h, .int .i64 mi, .int .i64 se, .int .i64 (wdN hdDays3 s), .bool two, .bool (bad || wdB hdDays3 s)]]]) (res := []) [] Tryz.Ty.mixed T_specPartW3_ok Tryz.func193 (args := [.ptr 0 0 0 1, .int .i32 119]) (nE := 1) (nA := 2) (by decide +kernel) rfl rfl ?_
  simp only [Tryz.f193, bodyOf, rlOf]
  rw [W_V]
  simp (config := {maxSteps := 2000000}) only [T_specPartW3, Go.Proofs.Tryz.Hdt.tb_specWord, Go.Proofs.Tryz.Hdt.tb_specNum, Go.Proofs.Tryz.Hdt.tb_specDaysH, Go.Proofs.Tryz.Hdt.tb_specMonthsH, Go.Proofs.Tryz.Lib.tb_specHasPrefix, go_sem, seval, rz, hdDays, hdMonths, hdDays3]
  (try simp (config := {maxSteps := 2000000}) only [gimp, impB, isT, go_sem, seval])
  refine VL_N 8 ?_
  simp (config := {maxSteps := 4000000}) only [VN_succ, T_specPartW3, Go.Proofs.Tryz.Hdt.tb_specWord, Go.Proofs.Tryz.Hdt.tb_specNum, Go.Proofs.Tryz.Hdt.tb_specDaysH, Go.Proofs.Tryz.Hdt.tb_specMonthsH, Go.Proofs.Tryz.Lib.tb_specHasPrefix, go_sem, seval, rz, hdDays, hdMonths, hdDays3]
  exact hs
def T_specPartWL : Tbl := fun g E args => (addT (addT (addT (addT (addT nilT 211 Go.Proofs.Tryz.Hdt.tb_specWord) 212 Go.Proofs.Tryz.Hdt.tb_specNum) 138 Go.Proofs.Tryz.Hdt.tb_specDaysH) 141 Go.Proofs.Tryz.Hdt.tb_specMonthsH) 81 Go.Proofs.Tryz.Lib.tb_specHasPrefix) g E args
theorem T_specPartWL_ok : TblOK Tryz.prog T_specPartWL := (addT_ok (addT_ok (addT_ok (addT_ok (addT_ok nilT_ok (by decide +kernel) Go.Proofs.Tryz.Hdt.tb_specWord_ok) (by decide +kernel) Go.Proofs.Tryz.Hdt.tb_specNum_ok) (by decide +kernel) Go.Proofs.Tryz.Hdt.tb_specDaysH_ok) (by decide +kernel) Go.Proofs.Tryz.Hdt.tb_specMonthsH_ok) (by decide +kernel) Go.Proofs.Tryz.Lib.tb_specHasPrefix_ok)
set_option maxRecDepth 100000 in
set_option maxHeartbeats 4000000 in
theorem specPartWL (s : List UInt8) (y mo d h mi se week : Int) (two bad : Bool) (hs : s.length ≤ 1000000) : SpecE Tryz.prog 193 [.cells 10 false rz [.agg [.str s, .int .i64 y, .int .i64 mo, .int .i64 d, .int .i64 h, .int .i64 mi, .int .i64 se, .int .i64 week, .bool two, .bool bad]]] [.ptr 0 0 0 1, .int .i32 87] [.cells 10 false rz [.agg [.str (wdS hdDays s), .int .i64 y, .int .i64 mo, .int .i64 d, .int .i64 h, .int .i64 mi, .int .i64 se, .int .i64 (wdN hdDays s), .bool two, .bool (bad || wdB hdDays s)]]] (.tuple []) := by
  refine specFE (C := T_specPartWL) (wr := false) (D := fun _ => []) (U := fun _ => none) (E := [.cells 10 false rz [.agg [.str s, .int .i64 y, .int .i64 mo, .int .i64 d, .int .i64 h, .int .i64 mi, .int .i64 se, .int .i64 week, .bool two, .bool bad]]]) (E' := [.cells 10 false rz [.agg [.str (wdS hdDays s), .int .i64 y, .int .i64 mo, .int .i64 d, .int .i64 h, .int .i64 mi, .int .i64 se, .int .i64 (wdN hdDays s), .bool two, .bool (bad || wdB hdDays s)]]]) (res := []) [] Tryz.Ty.mixed T_specPartWL_ok Tryz.func193 (args := [.ptr 0 0 0 1, .int .i32 87]) (nE := 1) (nA := 2) (by decide +kernel) rfl rfl ?_
  simp only [Tryz.f193, bodyOf, rlOf]
  rw [W_V]
  simp (config := {maxSteps := 2000000}) only [T_specPartWL, Go.Proofs.Tryz.Hdt.tb_specWord, Go.Proofs.Tryz.Hdt.tb_specNum, Go.Proofs.Tryz.Hdt.tb_specDaysH, Go.Proofs.Tryz.Hdt.tb_specMonthsH, Go.Proofs.Tryz.Lib.tb_specHasPrefix, go_sem, seval, rz, hdDays, hdMonths, hdDays3]
  (try simp (config := {maxSteps := 2000000}) only [gimp, impB, isT, go_sem, seval])
  exact hs
def T_specPartD : Tbl := fun g E args => (addT (addT (addT (addT (addT nilT 211 Go.Proofs.Tryz.Hdt.tb_specWord) 212 Go.Proofs.Tryz.Hdt.tb_specNum) 138 Go.Proofs.Tryz.Hdt.tb_specDaysH) 141 Go.Proofs.Tryz.Hdt.tb_specMonthsH) 81 Go.Proofs.Tryz.Lib.tb_specHasPrefix) g E args
theorem T_specPartD_ok : TblOK Tryz.prog T_specPartD := (addT_ok (addT_ok (addT_ok (addT_ok (addT_ok nilT_ok (by decide +kernel) Go.Proofs.Tryz.Hdt.tb_specWord_ok) (by decide +kernel) Go.Proofs.Tryz.Hdt.tb_specNum_ok) (by decide +kernel) Go.Proofs.Tryz.Hdt.tb_specDaysH_ok) (by decide +kernel) Go.Proofs.Tryz.Hdt.tb_specMonthsH_ok) (by decide +kernel) Go.Proofs.Tryz.Lib.tb_specHasPrefix_ok)
set_option maxRecDepth 100000 in
set_option maxHeartbeats 4000000 in
theorem specPartD (s : List UInt8) (y mo d h mi se week : Int) (two bad : Bool) (hs : s.length ≤ 1000000) : SpecE Tryz.prog 193 [.cells 10 false rz [.agg [.str s, .int .i64 y, .int .i64 mo, .int .i64 d, .int .i64 h, .int .i64 mi, .int .i64 se, .int .i64 week, .bool two, .bool bad]]] [.ptr 0 0 0 1, .int .i32 100] [.cells 10 false rz [.agg [.str (nmS 2 s), .int .i64 y, .int .i64 mo, .int .i64 (nmN 2 s), .int .i64 h, .int .i64 mi, .int .i64 se, .int .i64 week, .bool two, .bool (bad || nmB 2 s)]]] (.tuple []) := by
  refine specFE (C := T_specPartD) (wr := false) (D := fun _ => []) (U := fun _ => none) (E := [.cells 10 false rz [.agg [.str s, .int .i64 y, .int .i64 mo, .int .i64 d, .int .i64 h, .int .i64 mi, .int .i64 se, .int .i64 week, .bool two, .bool bad]]]) (E' := [.cells 10 false rz [.agg [.str (nmS 2 s), .int .i64 y, .int .i64 mo, .int .i64 (nmN 2 s), .int .i64 h, .int .i64 mi, .int .i64 se, .int .i64 week, .bool two, .bool (bad || nmB 2 s)]]]) (res := []) [] Tryz.Ty.mixed T_specPartD_ok Tryz.func193 (args := [.ptr 0 0 0 1, .int .i32 100]) (nE := 1) (nA := 2) (by decide +kernel) rfl rfl ?_
  simp only [Tryz.f193, bodyOf, rlOf]
  rw [W_V]
  simp (config := {maxSteps := 2000000}) only [T_specPartD, Go.Proofs.Tryz.Hdt.tb_specWord, Go.Proofs.Tryz.Hdt.tb_specNum, Go.Proofs.Tryz.Hdt.tb_specDaysH, Go.Proofs.Tryz.Hdt.tb_specMonthsH, Go.Proofs.Tryz.Lib.tb_specHasPrefix, go_sem, seval, rz, hdDays, hdMonths, hdDays3]
  (try simp (config := {maxSteps := 2000000}) only [gimp, impB, isT, go_sem, seval])
  exact hs
def T_specPartB : Tbl := fun g E args => (addT (addT (addT (addT (addT nilT 211 Go.Proofs.Tryz.Hdt.tb_specWord) 212 Go.Proofs.Tryz.Hdt.tb_specNum) 138 Go.Proofs.Tryz.Hdt.tb_specDaysH) 141 Go.Proofs.Tryz.Hdt.tb_specMonthsH) 81 Go.Proofs.Tryz.Lib.tb_specHasPrefix) g E args
theorem T_specPartB_ok : TblOK Tryz.prog T_specPartB := (addT_ok (addT_ok (addT_ok (addT_ok (addT_ok nilT_ok (by decide +kernel) Go.Proofs.Tryz.Hdt.tb_specWord_ok) (by decide +kernel) Go.Proofs.Tryz.Hdt.tb_specNum_ok) (by decide +kernel) Go.Proofs.Tryz.Hdt.tb_specDaysH_ok) (by decide +kernel) Go.Proofs.Tryz.Hdt.tb_specMonthsH_ok) (by decide +kernel) Go.Proofs.Tryz.Lib.tb_specHasPrefix_ok)
set_option maxRecDepth 100000 in
set_option maxHeartbeats 4000000 in
theorem specPartB (s : List UInt8) (y mo d h mi se week : Int) (two bad : Bool) (hs : s.length ≤ 1000000) : SpecE Tryz.prog 193 [.cells 10 false rz [.agg [.str s, .int .i64 y, .int .i64 mo, .int .i64 d, .int .i64 h, .int .i64 mi, .int .i64 se, .int .i64 week, .bool two, .bool bad]]] [.ptr 0 0 0 1, .int .i32 98] [.cells 10 false rz [.agg [.str (nmS (blW s) (blS s)), .int .i64 y, .int .i64 mo, .int .i64 (nmN (blW s) (blS s)), .int .i64 h, .int .i64 mi, .int .i64 se, .int .i64 week, .bool two, .bool (bad || nmB (blW s) (blS s))]]] (.tuple []) := by
  refine specFE (C := T_specPartB) (wr := false) (D := fun _ => []) (U := fun _ => none) (E := [.cells 10 false rz [.agg [.str s, .int .i64 y, .int .i64 mo, .int .i64 d, .int .i64 h, .int .i64 mi, .int .i64 se, .int .i64 week, .bool two, .bool bad]]]) (E' := [.cells 10 false rz [.agg [.str (nmS (blW s) (blS s)), .int .i64 y, .int .i64 mo, .int .i64 (nmN (blW s) (blS s)), .int .i64 h, .int .i64 mi, .int .i64 se, .int .i64 week, .bool two, .bool (bad || nmB (blW s) (blS s))]]]) (res := []) [] Tryz.Ty.mixed T_specPartB_ok Tryz.func193 (args := [.ptr 0 0 0 1, .int .i32 98]) (nE := 1) (nA := 2) (by decide +kernel) rfl rfl ?_
  simp only [Tryz.f193, bodyOf, rlOf]
  rw [W_V]
  simp (config := {maxSteps := 2000000}) only [T_specPartB, Go.Proofs.Tryz.Hdt.tb_specWord, Go.Proofs.Tryz.Hdt.tb_specNum, Go.Proofs.Tryz.Hdt.tb_specDaysH, Go.Proofs.Tryz.Hdt.tb_specMonthsH, Go.Proofs.Tryz.Lib.tb_specHasPrefix, go_sem, seval, rz, hdDays, hdMonths, hdDays3]
  (try simp (config := {maxSteps := 2000000}) only [gimp, impB, isT, go_sem, seval])
  have h7 : (s.drop 1).length ≤ s.length := by simp
  refine ⟨fun h => ?_, fun h => ?_⟩
  · have e1 : blW s = 1 := by rw [blW, if_pos h]
    have e2 : blS s = s.drop 1 := by rw [blS, if_pos h]
    have := prefix_len h
    rw [e1, e2]
    exact ⟨by simp at this; omega, by omega, rfl, rfl⟩
  · have e1 : blW s = 2 := by rw [blW, h]; rfl
    have e2 : blS s = s := by rw [blS, h]; rfl
    rw [e1, e2]
    exact ⟨hs, rfl, rfl⟩
def T_specPartM : Tbl := fun g E args => (addT (addT (addT (addT (addT nilT 211 Go.Proofs.Tryz.Hdt.tb_specWord) 212 Go.Proofs.Tryz.Hdt.tb_specNum) 138 Go.Proofs.Tryz.Hdt.tb_specDaysH) 141 Go.Proofs.Tryz.Hdt.tb_specMonthsH) 81 Go.Proofs.Tryz.Lib.tb_specHasPrefix) g E args
theorem T_specPartM_ok : TblOK Tryz.prog T_specPartM := (addT_ok (addT_ok (addT_ok (addT_ok (addT_ok nilT_ok (by decide +kernel) Go.Proofs.Tryz.Hdt.tb_specWord_ok) (by decide +kernel) Go.Proofs.Tryz.Hdt.tb_specNum_ok) (by decide +kernel) Go.Proofs.Tryz.Hdt.tb_specDaysH_ok) (by decide +kernel) Go.Proofs.Tryz.Hdt.tb_specMonthsH_ok) (by decide +kernel) Go.Proofs.Tryz.Lib.tb_specHasPrefix_ok)
set_option maxRecDepth 100000 in
set_option maxHeartbeats 4000000 in
theorem specPartM (s : List UInt8) (y mo d h mi se week : Int) (two bad : Bool) (hs : s.length ≤ 1000000) : SpecE Tryz.prog 193 [.cells 10 false rz [.agg [.str s, .int .i64 y, .int .i64 mo, .int .i64 d, .int .i64 h, .int .i64 mi, .int .i64 se, .int .i64 week, .bool two, .bool bad]]] [.ptr 0 0 0 1, .int .i32 109] [.cells 10 false rz [.agg [.str (wdS hdMonths s), .int .i64 y, .int .i64 (wdN hdMonths s + 1), .int .i64 d, .int .i64 h, .int .i64 mi, .int .i64 se, .int .i64 week, .bool two, .bool (bad || wdB hdMonths s)]]] (.tuple []) := by
  refine specFE (C := T_specPartM) (wr := false) (D := fun _ => []) (U := fun _ => none) (E := [.cells 10 false rz [.agg [.str s, .int .i64 y, .int .i64 mo, .int .i64 d, .int .i64 h, .int .i64 mi, .int .i64 se, .int .i64 week, .bool two, .bool bad]]]) (E' := [.cells 10 false rz [.agg [.str (wdS hdMonths s), .int .i64 y, .int .i64 (wdN hdMonths s + 1), .int .i64 d, .int .i64 h, .int .i64 mi, .int .i64 se, .int .i64 week, .bool two, .bool (bad || wdB hdMonths s)]]]) (res := []) [] Tryz.Ty.mixed T_specPartM_ok Tryz.func193 (args := [.ptr 0 0 0 1, .int .i32 109]) (nE := 1) (nA := 2) (by decide +kernel) rfl rfl ?_
  simp only [Tryz.f193, bodyOf, rlOf]
  rw [W_V]
  simp (config := {maxSteps := 2000000}) only [T_specPartM, Go.Proofs.Tryz.Hdt.tb_specWord, Go.Proofs.Tryz.Hdt.tb_specNum, Go.Proofs.Tryz.Hdt.tb_specDaysH, Go.Proofs.Tryz.Hdt.tb_specMonthsH, Go.Proofs.Tryz.Lib.tb_specHasPrefix, go_sem, seval, rz, hdDays, hdMonths, hdDays3]
  (try simp (config := {maxSteps := 2000000}) only [gimp, impB, isT, go_sem, seval])
  have := wdN_range [[74, 97, 110], [70, 101, 98], [77, 97, 114], [65, 112, 114], [77, 97, 121], [74, 117, 110], [74, 117, 108], [65, 117, 103], [83, 101, 112], [79, 99, 116], [78, 111, 118], [68, 101, 99]] s
  simp only [List.length_cons, List.length_nil] at this
  exact ⟨hs, by omega, by omega⟩
end Go.Proofs.Tryz.Hdt
end
section
set_option linter.unusedVariables false
set_option linter.unusedSimpArgs false
namespace Go.Proofs.Tryz.Hdt
open Go Go.Abs Go.Proofs Go.Mdl
theorem enc32 : (Utf8.encode 32).data.toList = [32] := by decide
theorem enc44 : (Utf8.encode 44).data.toList = [44] := by decide
theorem enc45 : (Utf8.encode 45).data.toList = [45] := by decide
def T_specPartY : Tbl := fun g E args => (addT (addT (addT (addT (addT nilT 211 Go.Proofs.Tryz.Hdt.tb_specWord) 212 Go.Proofs.Tryz.Hdt.tb_specNum) 138 Go.Proofs.Tryz.Hdt.tb_specDaysH) 141 Go.Proofs.Tryz.Hdt.tb_specMonthsH) 81 Go.Proofs.Tryz.Lib.tb_specHasPrefix) g E args
theorem T_specPartY_ok : TblOK Tryz.prog T_specPartY := (addT_ok (addT_ok (addT_ok (addT_ok (addT_ok nilT_ok (by decide +kernel) Go.Proofs.Tryz.Hdt.tb_specWord_ok) (by decide +kernel) Go.Proofs.Tryz.Hdt.tb_specNum_ok) (by decide +kernel) Go.Proofs.Tryz.Hdt.tb_specDaysH_ok) (by decide +kernel) Go.Proofs.Tryz.Hdt.tb_specMonthsH_ok) (by decide +kernel) Go.Proofs.Tryz.Lib.tb_specHasPrefix_ok)
set_option maxRecDepth 100000 in
set_option maxHeartbeats 4000000 in
theorem specPartY (s : List UInt8) (y mo d h mi se week : Int) (two bad : Bool) (hs : s.length ≤ 1000000) : SpecE Tryz.prog 193 [.cells 10 false rz [.agg [.str s, .int .i64 y, .int .i64 mo, .int .i64 d, .int .i64 h, .int .i64 mi, .int .i64 se, .int .i64 week, .bool two, .bool bad]]] [.ptr 0 0 0 1, .int .i32 121] [.cells 10 false rz [.agg [.str (nmS 4 s), .int .i64 (nmN 4 s), .int .i64 mo, .int .i64 d, .int .i64 h, .int .i64 mi, .int .i64 se, .int .i64 week, .bool two, .bool (bad || nmB 4 s)]]] (.tuple []) := by
  refine specFE (C := T_specPartY) (wr := false) (D := fun _ => []) (U := fun _ => none) (E := [.cells 10 false rz [.agg [.str s, .int .i64 y, .int .i64 mo, .int .i64 d, .int .i64 h, .int .i64 mi, .int .i64 se, .int .i64 week, .bool two, .bool bad]]]) (E' := [.cells 10 false rz [.agg [.str (nmS 4 s), .int .i64 (nmN 4 s), .int .i64 mo, .int .i64 d, .int .i64 h, .int .i64 mi, .int .i64 se, .int .i64 week, .bool two, .bool (bad || nmB 4 s)]]]) (res := []) [] Tryz.Ty.mixed T_specPartY_ok Tryz.func193 (args := [.ptr 0 0 0 1, .int .i32 121]) (nE := 1) (nA := 2) (by decide +kernel) rfl rfl ?_
  simp only [Tryz.f193, bodyOf, rlOf]
  rw [W_V]
  simp (config := {maxSteps := 2000000}) only [T_specPartY, Go.Proofs.Tryz.Hdt.tb_specWord, Go.Proofs.Tryz.Hdt.tb_specNum, Go.Proofs.Tryz.Hdt.tb_specDaysH, Go.Proofs.Tryz.Hdt.tb_specMonthsH, Go.Proofs.Tryz.Lib.tb_specHasPrefix, go_sem, seval, rz, hdDays, hdMonths, hdDays3]
  (try simp (config := {maxSteps := 2000000}) only [gimp, impB, isT, go_sem, seval])
  exact hs
def T_specPartK : Tbl := fun g E args => (addT (addT (addT (addT (addT nilT 211 Go.Proofs.Tryz.Hdt.tb_specWord) 212 Go.Proofs.Tryz.Hdt.tb_specNum) 138 Go.Proofs.Tryz.Hdt.tb_specDaysH) 141 Go.Proofs.Tryz.Hdt.tb_specMonthsH) 81 Go.Proofs.Tryz.Lib.tb_specHasPrefix) g E args
theorem T_specPartK_ok : TblOK Tryz.prog T_specPartK := (addT_ok (addT_ok (addT_ok (addT_ok (addT_ok nilT_ok (by decide +kernel) Go.Proofs.Tryz.Hdt.tb_specWord_ok) (by decide +kernel) Go.Proofs.Tryz.Hdt.tb_specNum_ok) (by decide +kernel) Go.Proofs.Tryz.Hdt.tb_specDaysH_ok) (by decide +kernel) Go.Proofs.Tryz.Hdt.tb_specMonthsH_ok) (by decide +kernel) Go.Proofs.Tryz.Lib.tb_specHasPrefix_ok)
set_option maxRecDepth 100000 in
set_option maxHeartbeats 4000000 in
theorem specPartK (s : List UInt8) (y mo d h mi se week : Int) (two bad : Bool) (hs : s.length ≤ 1000000) : SpecE Tryz.prog 193 [.cells 10 false rz [.agg [.str s, .int .i64 y, .int .i64 mo, .int .i64 d, .int .i64 h, .int .i64 mi, .int .i64 se, .int .i64 week, .bool two, .bool bad]]] [.ptr 0 0 0 1, .int .i32 107] [.cells 10 false rz [.agg [.str (nmS 2 s), .int .i64 (nmN 2 s), .int .i64 mo, .int .i64 d, .int .i64 h, .int .i64 mi, .int .i64 se, .int .i64 week, .bool true, .bool (bad || nmB 2 s)]]] (.tuple []) := by
  refine specFE (C := T_specPartK) (wr := false) (D := fun _ => []) (U := fun _ => none) (E := [.cells 10 false rz [.agg [.str s, .int .i64 y, .int .i64 mo, .int .i64 d, .int .i64 h, .int .i64 mi, .int .i64 se, .int .i64 week, .bool two, .bool bad]]]) (E' := [.cells 10 false rz [.agg [.str (nmS 2 s), .int .i64 (nmN 2 s), .int .i64 mo, .int .i64 d, .int .i64 h, .int .i64 mi, .int .i64 se, .int .i64 week, .bool true, .bool (bad || nmB 2 s)]]]) (res := []) [] Tryz.Ty.mixed T_specPartK_ok Tryz.func193 (args := [.ptr 0 0 0 1, .int .i32 107]) (nE := 1) (nA := 2) (by decide +kernel) rfl rfl ?_
  simp only [Tryz.f193, bodyOf, rlOf]
  rw [W_V]
  simp (config := {maxSteps := 2000000}) only [T_specPartK, Go.Proofs.Tryz.Hdt.tb_specWord, Go.Proofs.Tryz.Hdt.tb_specNum, Go.Proofs.Tryz.Hdt.tb_specDaysH, Go.Proofs.Tryz.Hdt.tb_specMonthsH, Go.Proofs.Tryz.Lib.tb_specHasPrefix, go_sem, seval, rz, hdDays, hdMonths, hdDays3]
  (try simp (config := {maxSteps := 2000000}) only [gimp, impB, isT, go_sem, seval])
  exact hs
def T_specPartT : Tbl := fun g E args => (addT (addT (addT (addT (addT nilT 211 Go.Proofs.Tryz.Hdt.tb_specWord) 212 Go.Proofs.Tryz.Hdt.tb_specNum) 138 Go.Proofs.Tryz.Hdt.tb_specDaysH) 141 Go.Proofs.Tryz.Hdt.tb_specMonthsH) 81 Go.Proofs.Tryz.Lib.tb_specHasPrefix) g E args
theorem T_specPartT_ok : TblOK Tryz.prog T_specPartT := (addT_ok (addT_ok (addT_ok (addT_ok (addT_ok nilT_ok (by decide +kernel) Go.Proofs.Tryz.Hdt.tb_specWord_ok) (by decide +kernel) Go.Proofs.Tryz.Hdt.tb_specNum_ok) (by decide +kernel) Go.Proofs.Tryz.Hdt.tb_specDaysH_ok) (by decide +kernel) Go.Proofs.Tryz.Hdt.tb_specMonthsH_ok) (by decide +kernel) Go.Proofs.Tryz.Lib.tb_specHasPrefix_ok)
set_option maxRecDepth 100000 in
set_option maxHeartbeats 4000000 in
theorem specPartT (s : List UInt8) (y mo d h mi se week : Int) (two bad : Bool) (hs : s.length ≤ 1000000) : SpecE Tryz.prog 193 [.cells 10 false rz [.agg [.str s, .int .i64 y, .int .i64 mo, .int .i64 d, .int .i64 h, .int .i64 mi, .int .i64 se, .int .i64 week, .bool two, .bool bad]]] [.ptr 0 0 0 1, .int .i32 116] [.cells 10 false rz [.agg [.str (nmS 2 (wdS [[58]] (nmS 2 (wdS [[58]] (nmS 2 s))))), .int .i64 y, .int .i64 mo, .int .i64 d, .int .i64 (nmN 2 s), .int .i64 (nmN 2 (wdS [[58]] (nmS 2 s))), .int .i64 (nmN 2 (wdS [[58]] (nmS 2 (wdS [[58]] (nmS 2 s))))), .int .i64 week, .bool two, .bool (bad || nmB 2 s || wdB [[58]] (nmS 2 s) || nmB 2 (wdS [[58]] (nmS 2 s)) || wdB [[58]] (nmS 2 (wdS [[58]] (nmS 2 s))) || nmB 2 (wdS [[58]] (nmS 2 (wdS [[58]] (nmS 2 s)))))]]] (.tuple []) := by
  refine specFE (C := T_specPartT) (wr := false) (D := fun _ => []) (U := fun _ => none) (E := [.cells 10 false rz [.agg [.str s, .int .i64 y, .int .i64 mo, .int .i64 d, .int .i64 h, .int .i64 mi, .int .i64 se, .int .i64 week, .bool two, .bool bad]]]) (E' := [.cells 10 false rz [.agg [.str (nmS 2 (wdS [[58]] (nmS 2 (wdS [[58]] (nmS 2 s))))), .int .i64 y, .int .i64 mo, .int .i64 d, .int .i64 (nmN 2 s), .int .i64 (nmN 2 (wdS [[58]] (nmS 2 s))), .int .i64 (nmN 2 (wdS [[58]] (nmS 2 (wdS [[58]] (nmS 2 s))))), .int .i64 week, .bool two, .bool (bad || nmB 2 s || wdB [[58]] (nmS 2 s) || nmB 2 (wdS [[58]] (nmS 2 s)) || wdB [[58]] (nmS 2 (wdS [[58]] (nmS 2 s))) || nmB 2 (wdS [[58]] (nmS 2 (wdS [[58]] (nmS 2 s)))))]]]) (res := []) [] Tryz.Ty.mixed T_specPartT_ok Tryz.func193 (args := [.ptr 0 0 0 1, .int .i32 116]) (nE := 1) (nA := 2) (by decide +kernel) rfl rfl ?_
  simp only [Tryz.f193, bodyOf, rlOf]
  rw [W_V]
  simp (config := {maxSteps := 2000000}) only [T_specPartT, Go.Proofs.Tryz.Hdt.tb_specWord, Go.Proofs.Tryz.Hdt.tb_specNum, Go.Proofs.Tryz.Hdt.tb_specDaysH, Go.Proofs.Tryz.Hdt.tb_specMonthsH, Go.Proofs.Tryz.Lib.tb_specHasPrefix, go_sem, seval, rz, hdDays, hdMonths, hdDays3]
  (try simp (config := {maxSteps := 2000000}) only [gimp, impB, isT, go_sem, seval])
  have h1 := nmS_len 2 s
  have h2 := wdS_len [[58]] (nmS 2 s)
  have h3 := nmS_len 2 (wdS [[58]] (nmS 2 s))
  have h4 := wdS_len [[58]] (nmS 2 (wdS [[58]] (nmS 2 s)))
  exact ⟨hs, by omega, by omega, by omega, by omega⟩
def T_specPartZ : Tbl := fun g E args => (addT (addT (addT (addT (addT nilT 211 Go.Proofs.Tryz.Hdt.tb_specWord) 212 Go.Proofs.Tryz.Hdt.tb_specNum) 138 Go.Proofs.Tryz.Hdt.tb_specDaysH) 141 Go.Proofs.Tryz.Hdt.tb_specMonthsH) 81 Go.Proofs.Tryz.Lib.tb_specHasPrefix) g E args
theorem T_specPartZ_ok : TblOK Tryz.prog T_specPartZ := (addT_ok (addT_ok (addT_ok (addT_ok (addT_ok nilT_ok (by decide +kernel) Go.Proofs.Tryz.Hdt.tb_specWord_ok) (by decide +kernel) Go.Proofs.Tryz.Hdt.tb_specNum_ok) (by decide +kernel) Go.Proofs.Tryz.Hdt.tb_specDaysH_ok) (by decide +kernel) Go.Proofs.Tryz.Hdt.tb_specMonthsH_ok) (by decide +kernel) Go.Proofs.Tryz.Lib.tb_specHasPrefix_ok)
set_option maxRecDepth 100000 in
set_option maxHeartbeats 4000000 in
theorem specPartZ (s : List UInt8) (y mo d h mi se week : Int) (two bad : Bool) (hs : s.length ≤ 1000000) : SpecE Tryz.prog 193 [.cells 10 false rz [.agg [.str s, .int .i64 y, .int .i64 mo, .int .i64 d, .int .i64 h, .int .i64 mi, .int .i64 se, .int .i64 week, .bool two, .bool bad]]] [.ptr 0 0 0 1, .int .i32 122] [.cells 10 false rz [.agg [.str (wdS [[71, 77, 84]] s), .int .i64 y, .int .i64 mo, .int .i64 d, .int .i64 h, .int .i64 mi, .int .i64 se, .int .i64 week, .bool two, .bool (bad || wdB [[71, 77, 84]] s)]]] (.tuple []) := by
  refine specFE (C := T_specPartZ) (wr := false) (D := fun _ => []) (U := fun _ => none) (E := [.cells 10 false rz [.agg [.str s, .int .i64 y, .int .i64 mo, .int .i64 d, .int .i64 h, .int .i64 mi, .int .i64 se, .int .i64 week, .bool two, .bool bad]]]) (E' := [.cells 10 false rz [.agg [.str (wdS [[71, 77, 84]] s), .int .i64 y, .int .i64 mo, .int .i64 d, .int .i64 h, .int .i64 mi, .int .i64 se, .int .i64 week, .bool two, .bool (bad || wdB [[71, 77, 84]] s)]]]) (res := []) [] Tryz.Ty.mixed T_specPartZ_ok Tryz.func193 (args := [.ptr 0 0 0 1, .int .i32 122]) (nE := 1) (nA := 2) (by decide +kernel) rfl rfl ?_
  simp only [Tryz.f193, bodyOf, rlOf]
  rw [W_V]
  simp (config := {maxSteps := 2000000}) only [T_specPartZ, Go.Proofs.Tryz.Hdt.tb_specWord, Go.Proofs.Tryz.Hdt.tb_specNum, Go.Proofs.Tryz.Hdt.tb_specDaysH, Go.Proofs.Tryz.Hdt.tb_specMonthsH, Go.Proofs.Tryz.Lib.tb_specHasPrefix, go_sem, seval, rz, hdDays, hdMonths, hdDays3]
  (try simp (config := {maxSteps := 2000000}) only [gimp, impB, isT, go_sem, seval])
  exact hs
def T_specPartS1 : Tbl := fun g E args => (addT (addT (addT (addT (addT nilT 211 Go.Proofs.Tryz.Hdt.tb_specWord) 212 Go.Proofs.Tryz.Hdt.tb_specNum) 138 Go.Proofs.Tryz.Hdt.tb_specDaysH) 141 Go.Proofs.Tryz.Hdt.tb_specMonthsH) 81 Go.Proofs.Tryz.Lib.tb_specHasPrefix) g E args
theorem T_specPartS1_ok : TblOK Tryz.prog T_specPartS1 := (addT_ok (addT_ok (addT_ok (addT_ok (addT_ok nilT_ok (by decide +kernel) Go.Proofs.Tryz.Hdt.tb_specWord_ok) (by decide +kernel) Go.Proofs.Tryz.Hdt.tb_specNum_ok) (by decide +kernel) Go.Proofs.Tryz.Hdt.tb_specDaysH_ok) (by decide +kernel) Go.Proofs.Tryz.Hdt.tb_specMonthsH_ok) (by decide +kernel) Go.Proofs.Tryz.Lib.tb_specHasPrefix_ok)
set_option maxRecDepth 100000 in
set_option maxHeartbeats 4000000 in
theorem specPartS1 (s : List UInt8) (y mo d h mi se week : Int) (two bad : Bool) (hs : s.length ≤ 1000000) : SpecE Tryz.prog 193 [.cells 10 false rz [.agg [.str s, .int .i64 y, .int .i64 mo, .int .i64 d, .int .i64 h, .int .i64 mi, .int .i64 se, .int .i64 week, .bool two, .bool bad]]] [.ptr 0 0 0 1, .int .i32 32] [.cells 10 false rz [.agg [.str (wdS [[32]] s), .int .i64 y, .int .i64 mo, .int .i64 d, .int .i64 h, .int .i64 mi, .int .i64 se, .int .i64 week, .bool two, .bool (bad || wdB [[32]] s)]]] (.tuple []) := by
  refine specFE (C := T_specPartS1) (wr := false) (D := fun _ => []) (U := fun _ => none) (E := [.cells 10 false rz [.agg [.str s, .int .i64 y, .int .i64 mo, .int .i64 d, .int .i64 h, .int .i64 mi, .int .i64 se, .int .i64 week, .bool two, .bool bad]]]) (E' := [.cells 10 false rz [.agg [.str (wdS [[32]] s), .int .i64 y, .int .i64 mo, .int .i64 d, .int .i64 h, .int .i64 mi, .int .i64 se, .int .i64 week, .bool two, .bool (bad || wdB [[32]] s)]]]) (res := []) [] Tryz.Ty.mixed T_specPartS1_ok Tryz.func193 (args := [.ptr 0 0 0 1, .int .i32 32]) (nE := 1) (nA := 2) (by decide +kernel) rfl rfl ?_
  simp only [Tryz.f193, bodyOf, rlOf]
  rw [W_V]
  simp (config := {maxSteps := 2000000}) only [T_specPartS1, Go.Proofs.Tryz.Hdt.tb_specWord, Go.Proofs.Tryz.Hdt.tb_specNum, Go.Proofs.Tryz.Hdt.tb_specDaysH, Go.Proofs.Tryz.Hdt.tb_specMonthsH, Go.Proofs.Tryz.Lib.tb_specHasPrefix, go_sem, seval, rz, hdDays, hdMonths, hdDays3, enc32, enc44, enc45]
  (try simp (config := {maxSteps := 2000000}) only [gimp, impB, isT, go_sem, seval])
  exact hs
def T_specPartS2 : Tbl := fun g E args => (addT (addT (addT (addT (addT nilT 211 Go.Proofs.Tryz.Hdt.tb_specWord) 212 Go.Proofs.Tryz.Hdt.tb_specNum) 138 Go.Proofs.Tryz.Hdt.tb_specDaysH) 141 Go.Proofs.Tryz.Hdt.tb_specMonthsH) 81 Go.Proofs.Tryz.Lib.tb_specHasPrefix) g E args
theorem T_specPartS2_ok : TblOK Tryz.prog T_specPartS2 := (addT_ok (addT_ok (addT_ok (addT_ok (addT_ok nilT_ok (by decide +kernel) Go.Proofs.Tryz.Hdt.tb_specWord_ok) (by decide +kernel) Go.Proofs.Tryz.Hdt.tb_specNum_ok) (by decide +kernel) Go.Proofs.Tryz.Hdt.tb_specDaysH_ok) (by decide +kernel) Go.Proofs.Tryz.Hdt.tb_specMonthsH_ok) (by decide +kernel) Go.Proofs.Tryz.Lib.tb_specHasPrefix_ok)
set_option maxRecDepth 100000 in
set_option maxHeartbeats 4000000 in
theorem specPartS2 (s : List UInt8) (y mo d h mi se week : Int) (two bad : Bool) (hs : s.length ≤ 1000000) : SpecE Tryz.prog 193 [.cells 10 false rz [.agg [.str s, .int .i64 y, .int .i64 mo, .int .i64 d, .int .i64 h, .int .i64 mi, .int .i64 se, .int .i64 week, .bool two, .bool bad]]] [.ptr 0 0 0 1, .int .i32 44] [.cells 10 false rz [.agg [.str (wdS [[44]] s), .int .i64 y, .int .i64 mo, .int .i64 d, .int .i64 h, .int .i64 mi, .int .i64 se, .int .i64 week, .bool two, .bool (bad || wdB [[44]] s)]]] (.tuple []) := by
  refine specFE (C := T_specPartS2) (wr := false) (D := fun _ => []) (U := fun _ => none) (E := [.cells 10 false rz [.agg [.str s, .int .i64 y, .int .i64 mo, .int .i64 d, .int .i64 h, .int .i64 mi, .int .i64 se, .int .i64 week, .bool two, .bool bad]]]) (E' := [.cells 10 false rz [.agg [.str (wdS [[44]] s), .int .i64 y, .int .i64 mo, .int .i64 d, .int .i64 h, .int .i64 mi, .int .i64 se, .int .i64 week, .bool two, .bool (bad || wdB [[44]] s)]]]) (res := []) [] Tryz.Ty.mixed T_specPartS2_ok Tryz.func193 (args := [.ptr 0 0 0 1, .int .i32 44]) (nE := 1) (nA := 2) (by decide +kernel) rfl rfl ?_
  simp only [Tryz.f193, bodyOf, rlOf]
  rw [W_V]
  simp (config := {maxSteps := 2000000}) only [T_specPartS2, Go.Proofs.Tryz.Hdt.tb_specWord, Go.Proofs.Tryz.Hdt.tb_specNum, Go.Proofs.Tryz.Hdt.tb_specDaysH, Go.Proofs.Tryz.Hdt.tb_specMonthsH, Go.Proofs.Tryz.Lib.tb_specHasPrefix, go_sem, seval, rz, hdDays, hdMonths, hdDays3, enc32, enc44, enc45]
  (try simp (config := {maxSteps := 2000000}) only [gimp, impB, isT, go_sem, seval])
  exact hs
def T_specPartS3 : Tbl := fun g E args => (addT (addT (addT (addT (addT nilT 211 Go.Proofs.Tryz.Hdt.tb_specWord) 212 Go.Proofs.Tryz.Hdt.tb_specNum) 138 Go.Proofs.Tryz.Hdt.tb_specDaysH) 141 Go.Proofs.Tryz.Hdt.tb_specMonthsH) 81 Go.Proofs.Tryz.Lib.tb_specHasPrefix) g E args
theorem T_specPartS3_ok : TblOK Tryz.prog T_specPartS3 := (addT_ok (addT_ok (addT_ok (addT_ok (addT_ok nilT_ok (by decide +kernel) Go.Proofs.Tryz.Hdt.tb_specWord_ok) (by decide +kernel) Go.Proofs.Tryz.Hdt.tb_specNum_ok) (by decide +kernel) Go.Proofs.Tryz.Hdt.tb_specDaysH_ok) (by decide +kernel) Go.Proofs.Tryz.Hdt.tb_specMonthsH_ok) (by decide +kernel) Go.Proofs.Tryz.Lib.tb_specHasPrefix_ok)
set_option maxRecDepth 100000 in
set_option maxHeartbeats 4000000 in
theorem specPartS3 (s : List UInt8) (y mo d h mi se week : Int) (two bad : Bool) (hs : s.length ≤ 1000000) : SpecE Tryz.prog 193 [.cells 10 false rz [.agg [.str s, .int .i64 y, .int .i64 mo, .int .i64 d, .int .i64 h, .int .i64 mi, .int .i64 se, .int .i64 week, .bool two, .bool bad]]] [.ptr 0 0 0 1, .int .i32 45] [.cells 10 false rz [.agg [.str (wdS [[45]] s), .int .i64 y, .int .i64 mo, .int .i64 d, .int .i64 h, .int .i64 mi, .int .i64 se, .int .i64 week, .bool two, .bool (bad || wdB [[45]] s)]]] (.tuple []) := by
  refine specFE (C := T_specPartS3) (wr := false) (D := fun _ => []) (U := fun _ => none) (E := [.cells 10 false rz [.agg [.str s, .int .i64 y, .int .i64 mo, .int .i64 d, .int .i64 h, .int .i64 mi, .int .i64 se, .int .i64 week, .bool two, .bool bad]]]) (E' := [.cells 10 false rz [.agg [.str (wdS [[45]] s), .int .i64 y, .int .i64 mo, .int .i64 d, .int .i64 h, .int .i64 mi, .int .i64 se, .int .i64 week, .bool two, .bool (bad || wdB [[45]] s)]]]) (res := []) [] Tryz.Ty.mixed T_specPartS3_ok Tryz.func193 (args := [.ptr 0 0 0 1, .int .i32 45]) (nE := 1) (nA := 2) (by decide +kernel) rfl rfl ?_
  simp only [Tryz.f193, bodyOf, rlOf]
  rw [W_V]
  simp (config := {maxSteps := 2000000}) only [T_specPartS3, Go.Proofs.Tryz.Hdt.tb_specWord, Go.Proofs.Tryz.Hdt.tb_specNum, Go.Proofs.Tryz.Hdt.tb_specDaysH, Go.Proofs.Tryz.Hdt.tb_specMonthsH, Go.Proofs.Tryz.Lib.tb_specHasPrefix, go_sem, seval, rz, hdDays, hdMonths, hdDays3, enc32, enc44, enc45]
  (try simp (config := {maxSteps := 2000000}) only [gimp, impB, isT, go_sem, seval])
  exact hs
end Go.Proofs.Tryz.Hdt
end
section
set_option linter.unusedVariables false
set_option linter.unusedSimpArgs false
namespace Go.Proofs.Tryz.Hdt
open Go Go.Abs Go.Proofs Go.Mdl
def tb_specPart : List Blk → List AV → Option (List Blk × AV × Prop)
  | [.cells 10 false z [.agg [.str s, .int .i64 y, .int .i64 mo, .int .i64 d, .int .i64 h, .int .i64 mi, .int .i64 se, .int .i64 week, .bool two, .bool bad]]], [.ptr 0 0 0 1, .int .i32 r] =>
    some ([.cells 10 false rz [enc_rd (partS (UInt8.ofNat r.toNat) ⟨s, y, mo, d, h, mi, se, week, two, bad⟩)]], .tuple [],
      z = rz ∧ s.length ≤ 1000000 ∧ (r == 119 || r == 87 || r == 100 || r == 98 || r == 109 || r == 121 || r == 107 || r == 116 || r == 122 || r == 32 || r == 44 || r == 45) = true)
  | _, _ => none
theorem tb_specPart_ok : ∀ E args E' res q, tb_specPart E args = some (E', res, q) → q → SpecE Tryz.prog 193 E args E' res := by
  intro E args E' res q h hq
  unfold tb_specPart at h
  split at h
  · rename_i z s y mo d h mi se week two bad r
    simp only [Option.some.injEq, Prod.mk.injEq] at h
    obtain ⟨rfl, rfl, rfl⟩ := h
    obtain ⟨rfl, hs, hr⟩ := hq
    simp only [Bool.or_eq_true, beq_iff_eq] at hr
    rcases hr with ((((((((((rfl | rfl) | rfl) | rfl) | rfl) | rfl) | rfl) | rfl) | rfl) | rfl) | rfl) | rfl
    · exact specPartW3 s y mo d h mi se week two bad hs
    · exact specPartWL s y mo d h mi se week two bad hs
    · exact specPartD s y mo d h mi se week two bad hs
    · exact specPartB s y mo d h mi se week two bad hs
    · exact specPartM s y mo d h mi se week two bad hs
    · exact specPartY s y mo d h mi se week two bad hs
    · exact specPartK s y mo d h mi se week two bad hs
    · exact specPartT s y mo d h mi se week two bad hs
    · exact specPartZ s y mo d h mi se week two bad hs
    · exact specPartS1 s y mo d h mi se week two bad hs
    · exact specPartS2 s y mo d h mi se week two bad hs
    · exact specPartS3 s y mo d h mi se week two bad hs
  · cases h
def patOK (pat : List UInt8) : Bool := (List.range pat.length).all fun k => decide (runeAt pat k = (((pat.getD k 0).toNat : Int), 1)) && (pat.getD k 0 == 119 || pat.getD k 0 == 87 || pat.getD k 0 == 100 || pat.getD k 0 == 98 || pat.getD k 0 == 109 || pat.getD k 0 == 121 || pat.getD k 0 == 107 || pat.getD k 0 == 116 || pat.getD k 0 == 122 || pat.getD k 0 == 32 || pat.getD k 0 == 44 || pat.getD k 0 == 45)
theorem pat_ok1 : patOK hdPat1 = true := by decide
theorem pat_ok2 : patOK hdPat2 = true := by decide
theorem pat_ok3 : patOK hdPat3 = true := by decide
theorem patOK_at {pat : List UInt8} (hp : patOK pat = true) {k : Nat} (h : k < pat.length) : runeAt pat k = (((pat.getD k 0).toNat : Int), 1) ∧ (((((((((((((((pat.getD k 0).toNat : Int) == 119) = true ∨ (((pat.getD k 0).toNat : Int) == 87) = true) ∨ (((pat.getD k 0).toNat : Int) == 100) = true) ∨ (((pat.getD k 0).toNat : Int) == 98) = true) ∨ (((pat.getD k 0).toNat : Int) == 109) = true) ∨ (((pat.getD k 0).toNat : Int) == 121) = true) ∨ (((pat.getD k 0).toNat : Int) == 107) = true) ∨ (((pat.getD k 0).toNat : Int) == 116) = true) ∨ (((pat.getD k 0).toNat : Int) == 122) = true) ∨ (((pat.getD k 0).toNat : Int) == 32) = true) ∨ (((pat.getD k 0).toNat : Int) == 44) = true) ∨ (((pat.getD k 0).toNat : Int) == 45) = true)) := by
  unfold patOK at hp
  rw [List.all_eq_true] at hp
  have := hp k (List.mem_range.2 h)
  simp only [Bool.and_eq_true, decide_eq_true_eq] at this
  refine ⟨this.1, ?_⟩
  have h2 := this.2
  simp only [Bool.or_eq_true, beq_iff_eq] at h2
  rcases h2 with ((((((((((h | h) | h) | h) | h) | h) | h) | h) | h) | h) | h) | h <;> rw [h] <;> decide
theorem runS_succ {pat : List UInt8} {k : Nat} (h : k < pat.length) (p : Rd) : runS (pat.take (k + 1)) p = partS (pat.getD k 0) (runS (pat.take k) p) := by
  unfold runS
  rw [take_succ_getD 0 h, List.foldl_append]; rfl
theorem runS_len (pat : List UInt8) (p : Rd) : (runS pat p).s.length ≤ p.s.length := by
  unfold runS
  induction pat generalizing p with
  | nil => exact Nat.le_refl _
  | cons c t ih => exact Nat.le_trans (ih _) (partS_len c p)
def T_specWhole : Tbl := fun g E args => (addT nilT 193 Go.Proofs.Tryz.Hdt.tb_specPart) g E args
theorem T_specWhole_ok : TblOK Tryz.prog T_specWhole := (addT_ok nilT_ok (by decide +kernel) Go.Proofs.Tryz.Hdt.tb_specPart_ok)
set_option maxRecDepth 100000 in
set_option maxHeartbeats 4000000 in
theorem specWhole (s pat : List UInt8) (hs : s.length ≤ 1000000) (hp : patOK pat = true) : SpecE Tryz.prog 169 [] [.str s, .str pat] [.cells 10 false rz [enc_rd (wholeS s pat)]] (.ptr 0 0 0 1) := by
  refine specFE (C := T_specWhole) (wr := false) (D := fun _ => []) (U := fun _ => none) (E := []) (E' := [.cells 10 false rz [enc_rd (wholeS s pat)]]) (res := [.ptr 0 0 0 1]) [176] Tryz.Ty.mixed T_specWhole_ok Tryz.func169 (args := [.str s, .str pat]) (nE := 0) (nA := 2) (by decide +kernel) rfl rfl ?_
  simp only [Tryz.f169, bodyOf, rlOf]
  rw [W_V]
  simp (config := {maxSteps := 2000000}) only [T_specWhole, Go.Proofs.Tryz.Hdt.tb_specPart, go_sem, seval, rz, enc_rd, rd_eta]
  (try simp (config := {maxSteps := 2000000}) only [gimp, impB, isT, go_sem, seval])
  refine VL_inv (X := Nat) (fun k => ⟨[(5, .ptr 176 0 0 1), (12, .it 208)], [(176, .cells 10 false rz [enc_rd (runS (pat.take k) (rd0 s))]), (208, .iter pat k)]⟩) (fun k => k ≤ pat.length) (fun k => pat.length - k) 0 ?_ ?_ ?_
  · simp only [T_specWhole, Go.Proofs.Tryz.Hdt.tb_specPart, go_sem, seval, rz, enc_rd, rd_eta, runS, rd0, List.take_zero, List.foldl_nil]
    try rfl
  · exact Nat.zero_le _
  rintro k hk
  simp (config := {maxSteps := 2000000}) only [T_specWhole, Go.Proofs.Tryz.Hdt.tb_specPart, go_sem, seval, rz, enc_rd, rd_eta]
  (try simp (config := {maxSteps := 2000000}) only [gimp, impB, isT, go_sem, seval])
  have hlen : (runS (pat.take k) (rd0 s)).s.length ≤ 1000000 := Nat.le_trans (runS_len _ _) hs
  refine ⟨fun hlt => ?_, fun hge => ?_⟩
  · obtain ⟨e, hm⟩ := patOK_at hp hlt
    have eb : UInt8.ofNat (((pat.getD k 0).toNat : Int)).toNat = pat.getD k 0 := by simp
    simp only [e, eb, if_pos hlt]
    simp only [← runS_succ hlt]
    exact ⟨hlt, ⟨hlen, hm⟩, k + 1, ⟨rfl, rfl⟩, by omega, by omega⟩
  · have : k = pat.length := by omega
    subst this
    simp only [List.take_length, wholeS]
def tb_specWhole : List Blk → List AV → Option (List Blk × AV × Prop)
  | [], [.str s, .str pat] => some ([.cells 10 false rz [enc_rd (wholeS s pat)]], .ptr 0 0 0 1, (s.length ≤ 1000000) ∧ (patOK pat = true))
  | _, _ => none
theorem tb_specWhole_ok : ∀ E args E' res p, tb_specWhole E args = some (E', res, p) → p → SpecE Tryz.prog 169 E args E' res := by
  intro E args E' res p h hp
  unfold tb_specWhole at h
  split at h
  · simp only [Option.some.injEq, Prod.mk.injEq] at h
    obtain ⟨rfl, rfl, rfl⟩ := h
    exact (specWhole _ _ hp.1 hp.2)
  · cases h
end Go.Proofs.Tryz.Hdt
end
section
set_option linter.unusedVariables false
set_option linter.unusedSimpArgs false
namespace Go.Proofs.Tryz.Hdt
open Go Go.Abs Go.Proofs Go.Mdl Go.Proofs.Tryz.Civil
def hdPats : List (List UInt8) := [hdPat1, hdPat2, hdPat3]
def T_specPatternsH : Tbl := fun g E args => nilT g E args
theorem T_specPatternsH_ok : TblOK Tryz.prog T_specPatternsH := nilT_ok
set_option maxRecDepth 100000 in
set_option maxHeartbeats 4000000 in
theorem specPatternsH : SpecE Tryz.prog 137 [] [] [] (.agg [.str hdPat1, .str hdPat2, .str hdPat3]) := by
  refine specF0 (C := T_specPatternsH) (wr := false) (D := fun _ => []) (U := fun _ => none) (res := [.agg [.str hdPat1, .str hdPat2, .str hdPat3]]) Tryz.Ty.mixed T_specPatternsH_ok Tryz.func137 (nA := 0) (by decide +kernel) rfl (fun _ => rfl) ?_
  simp only [Tryz.f137, bodyOf, rlOf]
  rw [W_V]
  simp (config := {maxSteps := 2000000}) only [T_specPatternsH, go_sem, seval, hdPat1, hdPat2, hdPat3]
  (try simp (config := {maxSteps := 2000000}) only [gimp, impB, isT, go_sem, seval])
def tb_specPatternsH : List Blk → List AV → Option (List Blk × AV × Prop)
  | [], [] => some ([], .agg [.str hdPat1, .str hdPat2, .str hdPat3], True)
  | _, _ => none
theorem tb_specPatternsH_ok : ∀ E args E' res p, tb_specPatternsH E args = some (E', res, p) → p → SpecE Tryz.prog 137 E args E' res := by
  intro E args E' res p h hp
  unfold tb_specPatternsH at h
  split at h
  · simp only [Option.some.injEq, Prod.mk.injEq] at h
    obtain ⟨rfl, rfl, rfl⟩ := h
    exact specPatternsH
  · cases h
theorem rem_range {a b : Int} (hb : 0 < b) : -b < a.tmod b ∧ a.tmod b < b := by
  rcases tdiv_cases a b hb with ⟨h, h1, h2⟩ | ⟨h, h1, h2⟩
  · rw [h2]; have := Int.emod_nonneg a (by omega : b ≠ 0); have := Int.emod_lt_of_pos a hb; omega
  · rw [h2]; have := Int.emod_nonneg (-a) (by omega : b ≠ 0); have := Int.emod_lt_of_pos (-a) hb; omega
def T_specNearH : Tbl := fun g E args => nilT g E args
theorem T_specNearH_ok : TblOK Tryz.prog T_specNearH := nilT_ok
set_option maxRecDepth 100000 in
set_option maxHeartbeats 4000000 in
theorem specNearH (two year : Int) (h1 : -1000000 ≤ two ∧ two ≤ 1000000) (h2 : -1000000 ≤ year ∧ year ≤ 1000000) : SpecE Tryz.prog 170 [] [.int .i64 two, .int .i64 year] [] (.int .i64 (nearI two year)) := by
  refine specF0 (C := T_specNearH) (wr := false) (D := fun _ => []) (U := fun _ => none) (res := [.int .i64 (nearI two year)]) Tryz.Ty.mixed T_specNearH_ok Tryz.func170 (nA := 2) (by decide +kernel) rfl (fun _ => rfl) ?_
  simp only [Tryz.f170, bodyOf, rlOf]
  rw [W_V]
  simp (config := {maxSteps := 2000000}) only [T_specNearH, go_sem, seval, nearI]
  (try simp (config := {maxSteps := 2000000}) only [gimp, impB, isT, go_sem, seval])
  have := rem_range (a := year + 50 - two) (b := 100) (by omega)
  have := rem_range (a := (year + 50 - two).tmod 100 + 100) (b := 100) (by omega)
  omega
def tb_specNearH : List Blk → List AV → Option (List Blk × AV × Prop)
  | [], [.int .i64 two, .int .i64 year] => some ([], .int .i64 (nearI two year), (-1000000 ≤ two ∧ two ≤ 1000000) ∧ (-1000000 ≤ year ∧ year ≤ 1000000))
  | _, _ => none
theorem tb_specNearH_ok : ∀ E args E' res p, tb_specNearH E args = some (E', res, p) → p → SpecE Tryz.prog 170 E args E' res := by
  intro E args E' res p h hp
  unfold tb_specNearH at h
  split at h
  · simp only [Option.some.injEq, Prod.mk.injEq] at h
    obtain ⟨rfl, rfl, rfl⟩ := h
    exact (specNearH _ _ hp.1 hp.2)
  · cases h
theorem aY_range (n : Int) : 0 ≤ aY n ∧ aY n ≤ 9999 := by
  unfold aY
  split
  · rename_i h
    have := right_bounds (day_back h).2
    unfold aY at this
    rw [if_pos h] at this
    omega
  · omega
theorem nmN_range (w : Nat) (s : List UInt8) : 0 ≤ nmN w s ∧ nmN w s ≤ 9999 := by
  unfold nmN
  split
  · omega
  · unfold numVal
    split
    · rename_i h
      unfold numErr at h
      split at h
      · omega
      · split at h
        · rename_i h2
          have := numV_nonneg (b := 10) (by omega) _ h2
          split at h <;> omega
        · omega
    · omega
theorem part_y (c : UInt8) (p : Rd) (h : 0 ≤ p.y ∧ p.y ≤ 9999) : 0 ≤ (partS c p).y ∧ (partS c p).y ≤ 9999 := by
  have h2 := nmN_range 2 p.s
  have h4 := nmN_range 4 p.s
  unfold partS
  (repeat' split) <;> simp only [Rd.word, Rd.num] <;> first | exact h | exact h2 | exact h4
theorem run_y (pat : List UInt8) (p : Rd) (h : 0 ≤ p.y ∧ p.y ≤ 9999) : 0 ≤ (runS pat p).y ∧ (runS pat p).y ≤ 9999 := by
  unfold runS
  induction pat generalizing p with
  | nil => exact h
  | cons c t ih => exact ih _ (part_y c p h)
def yearOf (now : Int) (p : Rd) : Int := if p.two = true then nearI p.y (aY (dQ now)) else p.y
def finOk (now : Int) (p : Rd) : Bool := secOk (yearOf now p) p.mo p.d p.h p.mi p.se && decide (weekday (dayAns (yearOf now p) p.mo p.d) = p.week)
def finN (now : Int) (p : Rd) : Int := if finOk now p = true then secNo (yearOf now p) p.mo p.d p.h p.mi p.se else 0
def hdGo (now : Int) (s : List UInt8) (k : Nat) : List (List UInt8) → Int × Int × Int
  | [] => (0, 0, 3)
  | pat :: t => if (wholeS s pat).bad = true then hdGo now s (k + 1) t else if finOk now (wholeS s pat) = true then (finN now (wholeS s pat), k + 1, 0) else (0, 0, 16)
def hdParse (s : List UInt8) (now : Int) : Int × Int × Int := if inDays (dQ now) = true then hdGo now s 0 hdPats else (0, 0, 1)
theorem go_case {now : Int} {s pat : List UInt8} {k : Nat} {t : List (List UInt8)} (hp : hdParse s now = hdGo now s k (pat :: t)) :
    ((wholeS s pat).bad = true → hdParse s now = hdGo now s (k + 1) t) ∧
    ((wholeS s pat).bad = false →
      ((wholeS s pat).two = true →
        (secOk (nearI (wholeS s pat).y (aY (dQ now))) (wholeS s pat).mo (wholeS s pat).d (wholeS s pat).h (wholeS s pat).mi (wholeS s pat).se = false ∨
          ¬weekday (dayAns (nearI (wholeS s pat).y (aY (dQ now))) (wholeS s pat).mo (wholeS s pat).d) = (wholeS s pat).week →
          0 = (hdParse s now).1 ∧ 0 = (hdParse s now).2.1 ∧ 16 = (hdParse s now).2.2) ∧
        (secOk (nearI (wholeS s pat).y (aY (dQ now))) (wholeS s pat).mo (wholeS s pat).d (wholeS s pat).h (wholeS s pat).mi (wholeS s pat).se = true →
          weekday (dayAns (nearI (wholeS s pat).y (aY (dQ now))) (wholeS s pat).mo (wholeS s pat).d) = (wholeS s pat).week →
          secNo (nearI (wholeS s pat).y (aY (dQ now))) (wholeS s pat).mo (wholeS s pat).d (wholeS s pat).h (wholeS s pat).mi (wholeS s pat).se = (hdParse s now).1 ∧ (k : Int) + 1 = (hdParse s now).2.1 ∧ 0 = (hdParse s now).2.2)) ∧
      ((wholeS s pat).two = false →
        (secOk (wholeS s pat).y (wholeS s pat).mo (wholeS s pat).d (wholeS s pat).h (wholeS s pat).mi (wholeS s pat).se = false ∨
          ¬weekday (dayAns (wholeS s pat).y (wholeS s pat).mo (wholeS s pat).d) = (wholeS s pat).week →
          0 = (hdParse s now).1 ∧ 0 = (hdParse s now).2.1 ∧ 16 = (hdParse s now).2.2) ∧
        (secOk (wholeS s pat).y (wholeS s pat).mo (wholeS s pat).d (wholeS s pat).h (wholeS s pat).mi (wholeS s pat).se = true →
          weekday (dayAns (wholeS s pat).y (wholeS s pat).mo (wholeS s pat).d) = (wholeS s pat).week →
          secNo (wholeS s pat).y (wholeS s pat).mo (wholeS s pat).d (wholeS s pat).h (wholeS s pat).mi (wholeS s pat).se = (hdParse s now).1 ∧ (k : Int) + 1 = (hdParse s now).2.1 ∧ 0 = (hdParse s now).2.2))) := by
  refine ⟨fun hb => by rw [hp, hdGo, if_pos hb], fun hb => ?_⟩
  have hb' : ¬ (wholeS s pat).bad = true := by rw [hb]; simp
  rw [hp, hdGo, if_neg hb']
  refine ⟨fun h2 => ?_, fun h2 => ?_⟩
  all_goals
    refine ⟨fun h => ?_, fun h1 h3 => ?_⟩
    · have : ¬ finOk now (wholeS s pat) = true := by
        unfold finOk yearOf
        rcases h with h | h <;> simp [h2, h]
      rw [if_neg this]; exact ⟨rfl, rfl, rfl⟩
    · have : finOk now (wholeS s pat) = true := by
        unfold finOk yearOf
        simp [h2, h1, h3]
      rw [if_pos this, finN, if_pos this]
      unfold yearOf
      simp [h2]
def T_specParseH : Tbl := fun g E args => (addT (addT (addT (addT (addT (addT (addT nilT 169 Go.Proofs.Tryz.Hdt.tb_specWhole) 137 Go.Proofs.Tryz.Hdt.tb_specPatternsH) 170 Go.Proofs.Tryz.Hdt.tb_specNearH) 135 Go.Proofs.Tryz.Civil.tb_specDate) 171 Go.Proofs.Tryz.Civil.tb_specSeconds) 136 Go.Proofs.Tryz.Civil.tb_pDays) 139 Go.Proofs.Tryz.Civil.tb_pWeekday) g E args
theorem T_specParseH_ok : TblOK Tryz.prog T_specParseH := (addT_ok (addT_ok (addT_ok (addT_ok (addT_ok (addT_ok (addT_ok nilT_ok (by decide +kernel) Go.Proofs.Tryz.Hdt.tb_specWhole_ok) (by decide +kernel) Go.Proofs.Tryz.Hdt.tb_specPatternsH_ok) (by decide +kernel) Go.Proofs.Tryz.Hdt.tb_specNearH_ok) (by decide +kernel) Go.Proofs.Tryz.Civil.tb_specDate_ok) (by decide +kernel) Go.Proofs.Tryz.Civil.tb_specSeconds_ok) (by decide +kernel) Go.Proofs.Tryz.Civil.tb_pDays_ok) (by decide +kernel) Go.Proofs.Tryz.Civil.tb_pWeekday_ok)
set_option maxRecDepth 100000 in
set_option maxHeartbeats 4000000 in
theorem specParseH (s : List UInt8) (now : Int) (hs : s.length ≤ 1000000) (hn : inR .i64 now) : SpecE Tryz.prog 134 [] [.str s, .int .i64 now] [] (.tuple [.int .i64 (hdParse s now).1, .int .i64 (hdParse s now).2.1, .int .i64 (hdParse s now).2.2]) := by
  refine specF0 (C := T_specParseH) (wr := false) (D := fun i => if i = 10 then [12] else []) (U := fun _ => none) (res := [.int .i64 (hdParse s now).1, .int .i64 (hdParse s now).2.1, .int .i64 (hdParse s now).2.2]) Tryz.Ty.mixed T_specParseH_ok Tryz.func134 (nA := 2) (by decide +kernel) rfl (fun _ => rfl) ?_
  simp only [Tryz.f134, bodyOf, rlOf]
  rw [W_V]
  simp (config := {maxSteps := 2000000}) only [T_specParseH, Go.Proofs.Tryz.Hdt.tb_specWhole, Go.Proofs.Tryz.Hdt.tb_specPatternsH, Go.Proofs.Tryz.Hdt.tb_specNearH, Go.Proofs.Tryz.Civil.tb_specDate, Go.Proofs.Tryz.Civil.tb_specSeconds, Go.Proofs.Tryz.Civil.tb_pDays, Go.Proofs.Tryz.Civil.tb_pWeekday, go_sem, seval, enc_rd, dateAV, rz]
  (try simp (config := {maxSteps := 2000000}) only [gimp, impB, isT, go_sem, seval])
  have hy : aY (dQ now) ≤ 1000000 ∧ -1000000 ≤ aY (dQ now) := by
    have := aY_range (dQ now)
    omega
  have hw : ∀ pat, (wholeS s pat).y ≤ 1000000 ∧ -1000000 ≤ (wholeS s pat).y := by
    intro pat
    have := run_y pat (rd0 s) (by simp [rd0])
    show (runS pat (rd0 s)).y ≤ 1000000 ∧ -1000000 ≤ (runS pat (rd0 s)).y
    omega
  refine ⟨hn, fun hno => ?_, fun hin => ?_⟩
  · simp [hdParse, hno]
  refine VL_inv (X := Nat) (fun k => ⟨[(0, .str s), (7, .ptr 128 0 0 1), (23, .agg [.str hdPat1, .str hdPat2, .str hdPat3]), (24, .int .i64 k)], [(128, .cells 6 false (dateAV 0 0 0 0 0 0) [dateAV (aY (dQ now)) (aM (dQ now)) (aD (dQ now)) (dIn now (dR now / 3600)) (dIn now (dR now / 60 % 60)) (dIn now (dR now % 60))])]⟩) (fun k => k ≤ 3 ∧ hdParse s now = hdGo now s k (hdPats.drop k)) (fun k => 3 - k) 0 ?_ ?_ ?_
  · simp only [T_specParseH, Go.Proofs.Tryz.Hdt.tb_specWhole, Go.Proofs.Tryz.Hdt.tb_specPatternsH, Go.Proofs.Tryz.Hdt.tb_specNearH, Go.Proofs.Tryz.Civil.tb_specDate, Go.Proofs.Tryz.Civil.tb_specSeconds, Go.Proofs.Tryz.Civil.tb_pDays, Go.Proofs.Tryz.Civil.tb_pWeekday, go_sem, seval, enc_rd, dateAV, rz]
    try rfl
  · exact ⟨by omega, by simp [hdParse, hin]⟩
  rintro k ⟨hk, hgo⟩
  obtain rfl | rfl | rfl | rfl : k = 0 ∨ k = 1 ∨ k = 2 ∨ k = 3 := by omega
  · rw [show ((0 : Nat) : Int) = 0 from rfl]
    simp (config := {maxSteps := 2000000}) only [T_specParseH, Go.Proofs.Tryz.Hdt.tb_specWhole, Go.Proofs.Tryz.Hdt.tb_specPatternsH, Go.Proofs.Tryz.Hdt.tb_specNearH, Go.Proofs.Tryz.Civil.tb_specDate, Go.Proofs.Tryz.Civil.tb_specSeconds, Go.Proofs.Tryz.Civil.tb_pDays, Go.Proofs.Tryz.Civil.tb_pWeekday, go_sem, seval, enc_rd, dateAV, rz]
    (try simp (config := {maxSteps := 2000000}) only [gimp, impB, isT, go_sem, seval])
    obtain ⟨g1, g2⟩ := go_case (k := 0) (pat := hdPat1) (t := [hdPat2, hdPat3]) hgo
    have hw' := hw hdPat1
    exact ⟨⟨hs, pat_ok1⟩, fun h => ⟨1, rfl, ⟨by omega, g1 h⟩, by omega⟩, fun h => ⟨fun h2 => ⟨⟨⟨hw'.2, hw'.1⟩, hy.2, hy.1⟩, (g2 h).1 h2⟩, (g2 h).2⟩⟩
  · rw [show ((1 : Nat) : Int) = 1 from rfl]
    simp (config := {maxSteps := 2000000}) only [T_specParseH, Go.Proofs.Tryz.Hdt.tb_specWhole, Go.Proofs.Tryz.Hdt.tb_specPatternsH, Go.Proofs.Tryz.Hdt.tb_specNearH, Go.Proofs.Tryz.Civil.tb_specDate, Go.Proofs.Tryz.Civil.tb_specSeconds, Go.Proofs.Tryz.Civil.tb_pDays, Go.Proofs.Tryz.Civil.tb_pWeekday, go_sem, seval, enc_rd, dateAV, rz]
    (try simp (config := {maxSteps := 2000000}) only [gimp, impB, isT, go_sem, seval])
    obtain ⟨g1, g2⟩ := go_case (k := 1) (pat := hdPat2) (t := [hdPat3]) hgo
    have hw' := hw hdPat2
    exact ⟨⟨hs, pat_ok2⟩, fun h => ⟨2, rfl, ⟨by omega, g1 h⟩, by omega⟩, fun h => ⟨fun h2 => ⟨⟨⟨hw'.2, hw'.1⟩, hy.2, hy.1⟩, (g2 h).1 h2⟩, (g2 h).2⟩⟩
  · rw [show ((2 : Nat) : Int) = 2 from rfl]
    simp (config := {maxSteps := 2000000}) only [T_specParseH, Go.Proofs.Tryz.Hdt.tb_specWhole, Go.Proofs.Tryz.Hdt.tb_specPatternsH, Go.Proofs.Tryz.Hdt.tb_specNearH, Go.Proofs.Tryz.Civil.tb_specDate, Go.Proofs.Tryz.Civil.tb_specSeconds, Go.Proofs.Tryz.Civil.tb_pDays, Go.Proofs.Tryz.Civil.tb_pWeekday, go_sem, seval, enc_rd, dateAV, rz]
    (try simp (config := {maxSteps := 2000000}) only [gimp, impB, isT, go_sem, seval])
    obtain ⟨g1, g2⟩ := go_case (k := 2) (pat := hdPat3) (t := []) hgo
    have hw' := hw hdPat3
    exact ⟨⟨hs, pat_ok3⟩, fun h => ⟨3, rfl, ⟨by omega, g1 h⟩, by omega⟩, fun h => ⟨fun h2 => ⟨⟨⟨hw'.2, hw'.1⟩, hy.2, hy.1⟩, (g2 h).1 h2⟩, (g2 h).2⟩⟩
  · rw [show ((3 : Nat) : Int) = 3 from rfl]
    simp (config := {maxSteps := 2000000}) only [T_specParseH, Go.Proofs.Tryz.Hdt.tb_specWhole, Go.Proofs.Tryz.Hdt.tb_specPatternsH, Go.Proofs.Tryz.Hdt.tb_specNearH, Go.Proofs.Tryz.Civil.tb_specDate, Go.Proofs.Tryz.Civil.tb_specSeconds, Go.Proofs.Tryz.Civil.tb_pDays, Go.Proofs.Tryz.Civil.tb_pWeekday, go_sem, seval, enc_rd, dateAV, rz]
    (try simp (config := {maxSteps := 2000000}) only [gimp, impB, isT, go_sem, seval])
    rw [hgo]
    exact ⟨rfl, rfl, rfl⟩
def tb_specParseH : List Blk → List AV → Option (List Blk × AV × Prop)
  | [], [.str s, .int .i64 now] => some ([], .tuple [.int .i64 (hdParse s now).1, .int .i64 (hdParse s now).2.1, .int .i64 (hdParse s now).2.2], (s.length ≤ 1000000) ∧ (inR .i64 now))
  | _, _ => none
theorem tb_specParseH_ok : ∀ E args E' res p, tb_specParseH E args = some (E', res, p) → p → SpecE Tryz.prog 134 E args E' res := by
  intro E args E' res p h hp
  unfold tb_specParseH at h
  split at h
  · simp only [Option.some.injEq, Prod.mk.injEq] at h
    obtain ⟨rfl, rfl, rfl⟩ := h
    exact (specParseH _ _ hp.1 hp.2)
  · cases h
end Go.Proofs.Tryz.Hdt
end
section
set_option linter.unusedVariables false
set_option linter.unusedSimpArgs false
namespace Go.Proofs.Tryz.Hdt
open Go Go.Abs Go.Proofs Go.Mdl Go.Proofs.Tryz.Civil
def fmOk (f : Fm) : Bool := secOk f.d.y f.d.mo f.d.d f.d.h f.d.mi f.d.se && decide (weekday (dayAns f.d.y f.d.mo f.d.d) = f.week)
def fmAns (f : Fm) (form : Int) : Int × Int × Int := if fmOk f = true then (secNo f.d.y f.d.mo f.d.d f.d.h f.d.mi f.d.se, form, 0) else (0, 0, 16)
def refGo (s : List UInt8) (ty : Int) : Int × Int × Int :=
  if (form1 s).ok = true then fmAns (form1 s) 1 else if (form2 ty s).ok = true then fmAns (form2 ty s) 2 else if (form3 s).ok = true then fmAns (form3 s) 3 else (0, 0, 3)
theorem fin_case {now : Int} {p : Rd} {f : Fm} {form : Int} (h : f = ⟨⟨yearOf now p, p.mo, p.d, p.h, p.mi, p.se⟩, p.week, true⟩) : (if finOk now p = true then (finN now p, form, (0 : Int)) else (0, 0, 16)) = fmAns f form := by
  subst h
  have e : fmOk ⟨⟨yearOf now p, p.mo, p.d, p.h, p.mi, p.se⟩, p.week, true⟩ = finOk now p := rfl
  unfold fmAns
  rw [e]
  by_cases hf : finOk now p = true
  · rw [if_pos hf, if_pos hf, finN, if_pos hf]
  · rw [if_neg hf, if_neg hf]
theorem parse_ref (s : List UInt8) (now : Int) : hdParse s now = if inDays (dQ now) = true then refGo s (aY (dQ now)) else (0, 0, 1) := by
  unfold hdParse
  by_cases hi : inDays (dQ now) = true
  rotate_left
  · rw [if_neg hi, if_neg hi]
  rw [if_pos hi, if_pos hi, refGo]
  obtain ⟨f1, g1⟩ := form1_ok s
  obtain ⟨f2, g2⟩ := form2_ok (aY (dQ now)) s
  obtain ⟨f3, g3⟩ := form3_ok s
  simp only [hdPats, hdGo]
  rcases whole1 s with ⟨c1, e1⟩ | ⟨c1, e1⟩
  · rw [if_neg (by rw [e1]; simp [v1]), if_pos (f1.2 c1), e1]
    exact fin_case (form := 1) (by rw [g1 c1]; rfl)
  rw [if_pos e1, if_neg (fun h => c1 (f1.1 h))]
  rcases whole2 s with ⟨c2, e2⟩ | ⟨c2, e2⟩
  · rw [if_neg (by rw [e2]; simp [v2]), if_pos (f2.2 c2), e2]
    exact fin_case (form := 2) (by rw [g2 c2]; rfl)
  rw [if_pos e2, if_neg (fun h => c2 (f2.1 h))]
  rcases whole3 s with ⟨c3, e3⟩ | ⟨c3, e3⟩
  · rw [if_neg (by rw [e3]; simp [v3]), if_pos (f3.2 c3), e3]
    exact fin_case (form := 3) (by rw [g3 c3]; rfl)
  rw [if_pos e3, if_neg (fun h => c3 (f3.1 h))]
def dtQ (t : Int) : Dt := ⟨aY (dQ t), aM (dQ t), aD (dQ t), dIn t (dR t / 3600), dIn t (dR t / 60 % 60), dIn t (dR t % 60)⟩
def wdD (d : Dt) : Int := weekday (dayAns d.y d.mo d.d)
def printH (t : Int) : List UInt8 := if inDays (dQ t) = true then writeS (dtQ t) (wdD (dtQ t)) 1 else []
theorem week_range (n : Int) : 0 ≤ weekday n ∧ weekday n < 7 := by unfold weekday; omega
theorem dtQ_in {t : Int} (h : inDays (dQ t) = true) : dtIn (dtQ t) (wdD (dtQ t)) := by
  obtain ⟨h1, h2⟩ := sec_back h
  rw [secOk_iff] at h2
  obtain ⟨hr, hh, hm, hs⟩ := h2
  have := right_bounds hr
  have w := week_range (dayAns (aY (dQ t)) (aM (dQ t)) (aD (dQ t)))
  exact ⟨w, ⟨this.1, this.2.1⟩, ⟨this.2.2.1, this.2.2.2.1⟩, ⟨this.2.2.2.2.1, this.2.2.2.2.2⟩, hh, hm, hs⟩
end Go.Proofs.Tryz.Hdt
end
section
set_option linter.unusedVariables false
set_option linter.unusedSimpArgs false
namespace Go.Mdl
open Go Go.Abs Go.Proofs Go.Proofs.Tryz.Civil Go.Proofs.Tryz.Hdt
def nmPr : List UInt8 := [80, 114, 97, 103, 109, 97]
def nmEx : List UInt8 := [69, 120, 112, 105, 114, 101, 115]
def nmDt : List UInt8 := [68, 97, 116, 101]
def wdNC : List UInt8 := [110, 111, 45, 99, 97, 99, 104, 101]
def wdNS : List UInt8 := [110, 111, 45, 115, 116, 111, 114, 101]
def wdPv : List UInt8 := [112, 114, 105, 118, 97, 116, 101]
def wdMax : List UInt8 := [109, 97, 120, 45, 97, 103, 101, 61]
def addF (l : List Fld) (n v : List UInt8) (is : Bool) : List Fld := if is = true ∧ v ≠ [] ∧ allS l n = [] then withS l n v else l
def cfxReq (l : List Fld) (a b : Int) : List Fld :=
  if a ≤ 0 ∧ 0 < b then addF l nmCC wdNC (pragS l) else if 0 < a ∧ b ≤ 0 then addF l nmPr wdNC (ctlHas l wdNC) else l
def heldB (l : List Fld) : Bool := ctlHas l wdNC || (ctlHas l wdNS || ctlHas l wdPv)
def dateN (l : List Fld) (n : List UInt8) (now : Int) : Int := (hdParse (getS l n) now).1
def dateB (l : List Fld) (n : List UInt8) (now : Int) : Bool := decide ((hdParse (getS l n) now).2.2 = 0)
def baseN (l : List Fld) (now : Int) : Int := if dateB l nmDt now = true then dateN l nmDt now else now
def tillS (b : Bool) (base age : Int) : List UInt8 := if b = true then printH base else if 1099511627776 < base then [] else printH (base + age)
def cfxOld (l : List Fld) (now : Int) : List Fld := addF (addF l nmPr wdNC (heldB l)) nmEx (tillS (heldB l) (baseN l now) (ageN l)) (heldB l || ageOk l)
def newAge (l : List Fld) (now : Int) : Int := max 0 (min (dateN l nmEx now - dateN l nmDt now) 2147483647)
def cfxNew (l : List Fld) (now : Int) : List Fld :=
  if pragS l = true then addF l nmCC wdNC true else addF l nmCC (wdMax ++ textI (newAge l now)) (dateB l nmEx now && dateB l nmDt now)
def cfxRes (l : List Fld) (a b now : Int) : List Fld :=
  if 0 < a ∧ b ≤ 0 then cfxOld l now else if a ≤ 0 ∧ 0 < b then cfxNew l now else l
theorem parse_small (s : List UInt8) (now : Int) : -1000000000000 ≤ (hdParse s now).1 ∧ (hdParse s now).1 ≤ 253402300799 := by
  rw [parse_ref]
  have key : ∀ f form, -1000000000000 ≤ (fmAns f form).1 ∧ (fmAns f form).1 ≤ 253402300799 := by
    intro f form
    unfold fmAns
    split
    · rename_i h
      unfold fmOk at h
      simp only [Bool.and_eq_true, decide_eq_true_eq] at h
      obtain ⟨h1, -⟩ := h
      simp only [secNo, if_pos h1]
      rw [secOk_iff] at h1
      have := dayNo_bounds h1.1
      omega
    · simp
  unfold refGo
  (repeat' split) <;> first | exact key _ _ | simp
theorem print_late {x : Int} (h : 253402300799 < x) : printH x = [] := by
  rw [printH, if_neg]
  unfold inDays dQ
  simp only [decide_eq_true_eq]
  omega
theorem addF_len (l : List Fld) (n v : List UInt8) (is : Bool) : (addF l n v is).length ≤ l.length + 1 := by
  unfold addF; split <;> simp [withS]
theorem allS_withS (l : List Fld) (n v m : List UInt8) : allS (withS l n v) m = allS l m ++ if foldS m n = true then [v] else [] := by
  simp only [allS, withS, List.filter_append, List.map_append]
  congr 1
  by_cases h : isN [m] (n, v) = true
  · rw [List.filter_cons_of_pos h, if_pos (by rw [isN_one] at h; exact h)]; rfl
  · rw [List.filter_cons_of_neg h, if_neg (by rw [isN_one] at h; exact h)]; rfl
theorem allS_addF_ne {l : List Fld} {n v m : List UInt8} {is : Bool} (h : foldS m n = false) : allS (addF l n v is) m = allS l m := by
  unfold addF
  split
  · rw [allS_withS, if_neg (by rw [h]; simp), List.append_nil]
  · rfl
theorem pr_ex : foldS nmEx nmPr = false := by decide +kernel
end Go.Mdl
end
section
set_option linter.unusedVariables false
set_option linter.unusedSimpArgs false
namespace Go.Proofs.Tryz.SlcD
open Go Go.Abs Go.Proofs Go.Mdl
def tbP_D (sz : Nat) (z : AV) (v : List AV) (p : Dir → Bool) (q : Dir → Prop) : List Blk → List AV → Option (List Blk × AV × Prop)
  | [.cells sz' false z' v'], [a, .ptr 0 0 0 1] => some ([.cells sz' false z' v'], .bool (p (dec_dir a)), sz' = sz ∧ z' = z ∧ v' = v ∧ a = enc_dir (dec_dir a) ∧ q (dec_dir a))
  | _, _ => none
theorem tbP_D_ok {f : FuncId} {sz : Nat} {z : AV} {v : List AV} {p : Dir → Bool} {q : Dir → Prop} (hs : ∀ x, q x → SpecE Tryz.prog f [.cells sz false z v] [enc_dir x, .ptr 0 0 0 1] [.cells sz false z v] (.bool (p x))) :
    ∀ E args E' res q', tbP_D sz z v p q E args = some (E', res, q') → q' → SpecE Tryz.prog f E args E' res := by
  intro E args E' res q' h hq
  unfold tbP_D at h
  split at h
  · rename_i sz' z' v' a
    simp only [Option.some.injEq, Prod.mk.injEq] at h
    obtain ⟨rfl, rfl, rfl⟩ := h
    obtain ⟨rfl, rfl, rfl, h1, h2⟩ := hq
    have := hs _ h2
    rw [← h1] at this; exact this
  · cases h
theorem idx_D {f : FuncId} (hy : ¬ f = 1000000) {sz : Nat} {z : AV} {v : List AV} (hv : BoxOK v) (hz : ∀ σ, ren σ z = z) {p : Dir → Bool} {q : Dir → Prop} (hs : ∀ x, q x → SpecE Tryz.prog f [.cells sz false z v] [enc_dir x, .ptr 0 0 0 1] [.cells sz false z v] (.bool (p x)))
    (l : List (Dir)) (hq : ∀ x ∈ l, q x) (hl : l.length ≤ maxLen) :
    SpecE Tryz.prog 128 [.cells sz false z v] [.list 3 (l.map enc_dir), .clo f 0 [.ptr 0 0 0 1]] [.cells sz false z v] (.int .i64 (idxP p l)) := by
  refine specFE (C := addT nilT f (tbP_D sz z v p q)) (wr := false) (D := fun _ => []) (U := fun _ => none) (E := [.cells sz false z v]) (E' := [.cells sz false z v]) (res := [.int .i64 (idxP p l)]) [] Tryz.Ty.mixed (addT_ok nilT_ok (by simp) (tbP_D_ok hs)) Tryz.func128 (nE := 1) (nA := 2) (by decide +kernel) rfl rfl ?_
  simp only [Tryz.f128, bodyOf, rlOf]
  rw [W_V]
  have hm : l.length ≤ 9223372036854775807 := hl
  obtain ⟨v1, v2, v3, v4⟩ := hv
  have v5 : ∀ L, contOK L v = True := fun L => contOK_pure v4
  simp only [tbP_D, hy, hz, v1, v2, v3, v5, go_sem, go_sem, seval, true_and]
  refine VL_inv (X := Nat) (fun k => ⟨[(0, .list 3 (l.map enc_dir)), (1, .clo f 0 [.ptr 0 0 0 1]), (7, .int .i64 l.length), (8, .int .i64 k)], [(0, .cells sz false z v)]⟩) (fun k => k ≤ l.length ∧ (l.take k).any p = false) (fun k => l.length - k) 0 ?_ ?_ ?_
  · simp only [tbP_D, hy, hz, v1, v2, v3, v5, go_sem, go_sem, seval]
    try rfl
  · exact ⟨Nat.zero_le _, by simp⟩
  rintro k ⟨hk, hn⟩
  simp only [tbP_D, hy, hz, v1, v2, v3, v5, go_sem, go_sem, seval, true_and, enc_dir, dec_dir]
  refine ⟨fun hlt => ⟨by omega, hq _ (List.mem_of_getElem? (getD_of_lt (s := l) (i := k) (d := dir0) (by omega))), fun hp => (idxP_hit dir0 (by omega) hn hp).symm, fun hp => ⟨by omega, k + 1, by omega, ⟨by omega, by rw [any_take_succ dir0 (by omega) hn]; exact hp⟩, by omega⟩⟩, fun hge => ?_⟩
  have : k = l.length := by omega
  subst this
  rw [List.take_length] at hn
  exact (idxP_none hn).symm
end Go.Proofs.Tryz.SlcD
end
section
set_option linter.unusedVariables false
set_option linter.unusedSimpArgs false
namespace Go.Proofs.Tryz.Hdr
open Go Go.Abs Go.Proofs Go.Mdl
def T_specNamed : Tbl := fun g E args => nilT g E args
theorem T_specNamed_ok : TblOK Tryz.prog T_specNamed := nilT_ok
set_option maxRecDepth 100000 in
set_option maxHeartbeats 4000000 in
theorem specNamed (names : List (List UInt8)) : SpecE Tryz.prog 103 [] [enc_strs names] [.cells 1 false .nils [enc_strs names]] (.clo 148 0 [.ptr 0 0 0 1]) := by
  refine specFE (C := T_specNamed) (wr := false) (D := fun _ => []) (U := fun _ => none) (E := []) (E' := [.cells 1 false .nils [enc_strs names]]) (res := [.clo 148 0 [.ptr 0 0 0 1]]) [32] Tryz.Ty.mixed T_specNamed_ok Tryz.func103 (args := [enc_strs names]) (nE := 0) (nA := 1) (by decide +kernel) rfl rfl ?_
  simp only [Tryz.f103, bodyOf, rlOf]
  rw [W_V]
  simp (config := {maxSteps := 2000000}) only [T_specNamed, go_sem, seval]
  (try simp (config := {maxSteps := 2000000}) only [gimp, impB, isT, go_sem, seval])
def tb_specNamed : List Blk → List AV → Option (List Blk × AV × Prop)
  | [], [a0] => some ([.cells 1 false .nils [enc_strs (dec_strs a0)]], .clo 148 0 [.ptr 0 0 0 1], argOK a0 (enc_strs (dec_strs a0)))
  | _, _ => none
theorem tb_specNamed_ok : ∀ E args E' res p, tb_specNamed E args = some (E', res, p) → p → SpecE Tryz.prog 103 E args E' res := by
  intro E args E' res p h hp
  unfold tb_specNamed at h
  split at h
  · simp only [Option.some.injEq, Prod.mk.injEq] at h
    obtain ⟨rfl, rfl, rfl⟩ := h
    exact SpecE.args (specNamed _) (.cons hp .nil)
  · cases h
def T_specNamedN : Tbl := fun g E args => (addT nilT 35 Go.Proofs.Tryz.Oct.tb_specFold) g E args
theorem T_specNamedN_ok : TblOK Tryz.prog T_specNamedN := (addT_ok nilT_ok (by decide +kernel) Go.Proofs.Tryz.Oct.tb_specFold_ok)
set_option maxRecDepth 100000 in
set_option maxHeartbeats 4000000 in
theorem specNamedN (n a b : List UInt8) (hn : n.length ≤ maxLen) : SpecE Tryz.prog 149 [.cells 2 false (.agg [.str [], .str []]) [.agg [.str a, .str b]]] [.str n, .ptr 0 0 0 1] [.cells 2 false (.agg [.str [], .str []]) [.agg [.str a, .str b]]] (.bool (foldS n a)) := by
  refine specFE (C := T_specNamedN) (wr := false) (D := fun _ => []) (U := fun _ => none) (E := [.cells 2 false (.agg [.str [], .str []]) [.agg [.str a, .str b]]]) (E' := [.cells 2 false (.agg [.str [], .str []]) [.agg [.str a, .str b]]]) (res := [.bool (foldS n a)]) [] Tryz.Ty.mixed T_specNamedN_ok Tryz.func149 (args := [.str n, .ptr 0 0 0 1]) (nE := 1) (nA := 2) (by decide +kernel) rfl rfl ?_
  simp only [Tryz.f149, bodyOf, rlOf]
  rw [W_V]
  simp (config := {maxSteps := 2000000}) only [T_specNamedN, Go.Proofs.Tryz.Oct.tb_specFold, go_sem, seval]
  (try simp (config := {maxSteps := 2000000}) only [gimp, impB, isT, go_sem, seval])
  exact hn
set_option maxRecDepth 100000 in
set_option maxHeartbeats 4000000 in
theorem specNamedHas (names : List (List UInt8)) (a b : List UInt8) (hl : names.length ≤ maxLen) (hq : ∀ x ∈ names, x.length ≤ maxLen) : SpecE Tryz.prog 125 [.cells 2 false (.agg [.str [], .str []]) [.agg [.str a, .str b]]] [enc_strs names, .clo 149 0 [.ptr 0 0 0 1]] [.cells 2 false (.agg [.str [], .str []]) [.agg [.str a, .str b]]] (.bool (isN names (a, b))) := by
  exact Slc.has_S (by decide) (boxFld (a, b)) (fun _ => rfl) (q := fun x => x.length ≤ maxLen) (fun x hx => specNamedN x a b hx) names hq hl
def tb_specNamedHas : List Blk → List AV → Option (List Blk × AV × Prop)
  | [.cells 2 false d [.agg [.str a, .str b]]], [a0, .clo 149 0 [.ptr 0 0 0 1]] => some ([.cells 2 false (.agg [.str [], .str []]) [.agg [.str a, .str b]]], .bool (isN (dec_strs a0) (a, b)), (d = .agg [.str [], .str []]) ∧ ((dec_strs a0).length ≤ maxLen) ∧ (∀ x ∈ (dec_strs a0), x.length ≤ maxLen) ∧ argOK a0 (enc_strs (dec_strs a0)))
  | _, _ => none
theorem tb_specNamedHas_ok : ∀ E args E' res p, tb_specNamedHas E args = some (E', res, p) → p → SpecE Tryz.prog 125 E args E' res := by
  intro E args E' res p h hp
  unfold tb_specNamedHas at h
  split at h
  · simp only [Option.some.injEq, Prod.mk.injEq] at h
    obtain ⟨rfl, rfl, rfl⟩ := h
    obtain ⟨rfl, hp⟩ := hp
    exact SpecE.args (specNamedHas _ _ _ hp.1 hp.2.1) (.cons hp.2.2 (.cons (argOK.refl _) .nil))
  · cases h
def T_specNamedF : Tbl := fun g E args => (addT nilT 125 Go.Proofs.Tryz.Hdr.tb_specNamedHas) g E args
theorem T_specNamedF_ok : TblOK Tryz.prog T_specNamedF := (addT_ok nilT_ok (by decide +kernel) Go.Proofs.Tryz.Hdr.tb_specNamedHas_ok)
set_option maxRecDepth 100000 in
set_option maxHeartbeats 4000000 in
theorem specNamedF (names : List (List UInt8)) (a b : List UInt8) (hl : names.length ≤ maxLen) (hq : ∀ x ∈ names, x.length ≤ maxLen) : SpecE Tryz.prog 148 [.cells 1 false .nils [enc_strs names]] [.agg [.str a, .str b], .ptr 0 0 0 1] [.cells 1 false .nils [enc_strs names]] (.bool (isN names (a, b))) := by
  refine specFE (C := T_specNamedF) (wr := false) (D := fun _ => []) (U := fun _ => none) (E := [.cells 1 false .nils [enc_strs names]]) (E' := [.cells 1 false .nils [enc_strs names]]) (res := [.bool (isN names (a, b))]) [] Tryz.Ty.mixed T_specNamedF_ok Tryz.func148 (args := [.agg [.str a, .str b], .ptr 0 0 0 1]) (nE := 1) (nA := 2) (by decide +kernel) rfl rfl ?_
  simp only [Tryz.f148, bodyOf, rlOf]
  rw [W_V]
  simp (config := {maxSteps := 2000000}) only [T_specNamedF, Go.Proofs.Tryz.Hdr.tb_specNamedHas, go_sem, seval]
  (try simp (config := {maxSteps := 2000000}) only [gimp, impB, isT, go_sem, seval])
  exact ⟨hl, hq⟩
def tb_specNamedF : List Blk → List AV → Option (List Blk × AV × Prop)
  | [.cells 1 false d [b0_0]], [.agg [.str a, .str b], .ptr 0 0 0 1] => some ([.cells 1 false .nils [enc_strs (dec_strs b0_0)]], .bool (isN (dec_strs b0_0) (a, b)), (d = .nils) ∧ ((dec_strs b0_0).length ≤ maxLen) ∧ (∀ x ∈ (dec_strs b0_0), x.length ≤ maxLen) ∧ b0_0 = enc_strs (dec_strs b0_0))
  | _, _ => none
theorem tb_specNamedF_ok : ∀ E args E' res p, tb_specNamedF E args = some (E', res, p) → p → SpecE Tryz.prog 148 E args E' res := by
  intro E args E' res p h hp
  unfold tb_specNamedF at h
  split at h
  · rename_i d b0_0 a b
    simp only [Option.some.injEq, Prod.mk.injEq] at h
    obtain ⟨rfl, rfl, rfl⟩ := h
    obtain ⟨rfl, hh0, hh1, hb0⟩ := hp
    generalize dec_strs b0_0 = b0_0_x at *
    subst hb0
    exact (specNamedF _ _ _ hh0 hh1)
  · cases h
set_option maxRecDepth 100000 in
set_option maxHeartbeats 4000000 in
theorem specIdx (names : List (List UInt8)) (l : List Fld) (hl : names.length ≤ maxLen) (hq : ∀ x ∈ names, x.length ≤ maxLen) (hll : l.length ≤ maxLen) : SpecE Tryz.prog 168 [.cells 1 false .nils [enc_strs names]] [enc_flds l, .clo 148 0 [.ptr 0 0 0 1]] [.cells 1 false .nils [enc_strs names]] (.int .i64 (idxP (isN names) l)) := by
  exact Slc.idx_F (by decide) (boxList 1 _) (fun _ => rfl) (q := fun _ => True) (fun x _ => specNamedF names x.1 x.2 hl hq) l (fun _ _ => trivial) hll
def tb_specIdx : List Blk → List AV → Option (List Blk × AV × Prop)
  | [.cells 1 false d [b0_0]], [a0, .clo 148 0 [.ptr 0 0 0 1]] => some ([.cells 1 false .nils [enc_strs (dec_strs b0_0)]], .int .i64 (idxP (isN (dec_strs b0_0)) (dec_flds a0)), (d = .nils) ∧ ((dec_strs b0_0).length ≤ maxLen) ∧ (∀ x ∈ (dec_strs b0_0), x.length ≤ maxLen) ∧ ((dec_flds a0).length ≤ maxLen) ∧ b0_0 = enc_strs (dec_strs b0_0) ∧ argOK a0 (enc_flds (dec_flds a0)))
  | _, _ => none
theorem tb_specIdx_ok : ∀ E args E' res p, tb_specIdx E args = some (E', res, p) → p → SpecE Tryz.prog 168 E args E' res := by
  intro E args E' res p h hp
  unfold tb_specIdx at h
  split at h
  · rename_i d b0_0 a0
    simp only [Option.some.injEq, Prod.mk.injEq] at h
    obtain ⟨rfl, rfl, rfl⟩ := h
    obtain ⟨rfl, hh0, hh1, hh2, hb0, hc0⟩ := hp
    generalize dec_strs b0_0 = b0_0_x at *
    subst hb0
    exact SpecE.args (specIdx _ _ hh0 hh1 hh2) (.cons hc0 (.cons (argOK.refl _) .nil))
  · cases h
def T_specAll : Tbl := fun g E args => (addT (addT nilT 103 Go.Proofs.Tryz.Hdr.tb_specNamed) 148 Go.Proofs.Tryz.Hdr.tb_specNamedF) g E args
theorem T_specAll_ok : TblOK Tryz.prog T_specAll := (addT_ok (addT_ok nilT_ok (by decide +kernel) Go.Proofs.Tryz.Hdr.tb_specNamed_ok) (by decide +kernel) Go.Proofs.Tryz.Hdr.tb_specNamedF_ok)
set_option maxRecDepth 100000 in
set_option maxHeartbeats 4000000 in
theorem specAll (l : List Fld) (name : List UInt8) (hl : l.length ≤ 1000) (hn : name.length ≤ maxLen) : SpecE Tryz.prog 62 [] [enc_flds l, .str name] [] (enc_strs (allS l name)) := by
  refine specF0 (C := T_specAll) (wr := false) (D := fun _ => []) (U := fun _ => none) (res := [enc_strs (allS l name)]) Tryz.Ty.mixed T_specAll_ok Tryz.func62 (nA := 2) (by decide +kernel) rfl (fun _ => rfl) ?_
  simp only [Tryz.f62, bodyOf, rlOf]
  rw [W_V]
  simp (config := {maxSteps := 2000000}) only [T_specAll, Go.Proofs.Tryz.Hdr.tb_specNamed, Go.Proofs.Tryz.Hdr.tb_specNamedF, go_sem, seval]
  (try simp (config := {maxSteps := 2000000}) only [gimp, impB, isT, go_sem, seval])
  refine VL_inv (X := Nat) (fun k => ⟨[(5, .clo 148 0 [.ptr 192 0 0 1]), (6, .ref 416 0 (allS (l.take k) name).length (allS (l.take k) name).length), (12, enc_flds l), (13, .int .i64 l.length), (14, .int .i64 k)], [(192, .cells 1 false .nils [enc_strs [name]]), (416, .cells 1 false (.str []) ((allS (l.take k) name).map .str))]⟩) (fun k => k ≤ l.length) (fun k => l.length - k) 0 ?_ ?_ ?_
  · simp only [allS, List.take_zero, List.filter_nil, go_sem, go_sem, seval]
    try rfl
  · exact Nat.zero_le _
  rintro k hk
  simp (config := {maxSteps := 2000000}) only [T_specAll, Go.Proofs.Tryz.Hdr.tb_specNamed, Go.Proofs.Tryz.Hdr.tb_specNamedF, go_sem, seval]
  (try simp (config := {maxSteps := 2000000}) only [gimp, impB, isT, go_sem, seval])
  have hs := fun h : k < l.length => allS_take_succ (l := l) name h
  have hle := allS_len (l.take k) name
  have hlt' : (l.take k).length ≤ 1000 := by rw [List.length_take]; omega
  have hm : (1 : Nat) ≤ maxLen := by decide
  refine ⟨fun hlt => ⟨by omega, ⟨hm, hn⟩, fun hy => ⟨by omega, by omega, k + 1, ⟨⟨?_, by omega⟩, ?_⟩, by omega, by omega⟩, fun hno => ⟨by omega, k + 1, ⟨⟨?_, by omega⟩, ?_⟩, by omega, by omega⟩⟩, fun hge => ?_⟩
  · rw [hs (by omega), if_pos hy]; simp
  · rw [hs (by omega), if_pos hy]; simp
  · rw [hs (by omega), if_neg (by rw [show isN [name] (l.getD k ([], [])) = false from hno]; simp)]; simp
  · rw [hs (by omega), if_neg (by rw [show isN [name] (l.getD k ([], [])) = false from hno]; simp)]; simp
  · rw [List.take_length, List.take_of_length_le (by omega)]
def tb_specAll : List Blk → List AV → Option (List Blk × AV × Prop)
  | [], [a0, .str name] => some ([], enc_strs (allS (dec_flds a0) name), ((dec_flds a0).length ≤ 1000) ∧ (name.length ≤ maxLen) ∧ argOK a0 (enc_flds (dec_flds a0)))
  | _, _ => none
theorem tb_specAll_ok : ∀ E args E' res p, tb_specAll E args = some (E', res, p) → p → SpecE Tryz.prog 62 E args E' res := by
  intro E args E' res p h hp
  unfold tb_specAll at h
  split at h
  · simp only [Option.some.injEq, Prod.mk.injEq] at h
    obtain ⟨rfl, rfl, rfl⟩ := h
    exact SpecE.args (specAll _ _ hp.1 hp.2.1) (.cons hp.2.2 (.cons (argOK.refl _) .nil))
  · cases h
def T_specGet : Tbl := fun g E args => (addT (addT nilT 103 Go.Proofs.Tryz.Hdr.tb_specNamed) 168 Go.Proofs.Tryz.Hdr.tb_specIdx) g E args
theorem T_specGet_ok : TblOK Tryz.prog T_specGet := (addT_ok (addT_ok nilT_ok (by decide +kernel) Go.Proofs.Tryz.Hdr.tb_specNamed_ok) (by decide +kernel) Go.Proofs.Tryz.Hdr.tb_specIdx_ok)
set_option maxRecDepth 100000 in
set_option maxHeartbeats 4000000 in
theorem specGet (l : List Fld) (name : List UInt8) (hl : l.length ≤ 1000) (hn : name.length ≤ maxLen) : SpecE Tryz.prog 133 [] [enc_flds l, .str name] [] (.tuple [.str (getS l name), .bool (hasF l name)]) := by
  refine specF0 (C := T_specGet) (wr := false) (D := fun _ => []) (U := fun _ => none) (res := [.str (getS l name), .bool (hasF l name)]) Tryz.Ty.mixed T_specGet_ok Tryz.func133 (nA := 2) (by decide +kernel) rfl (fun _ => rfl) ?_
  simp only [Tryz.f133, bodyOf, rlOf]
  rw [W_V]
  simp (config := {maxSteps := 2000000}) only [T_specGet, Go.Proofs.Tryz.Hdr.tb_specNamed, Go.Proofs.Tryz.Hdr.tb_specIdx, go_sem, seval, true_and]
  (try simp (config := {maxSteps := 2000000}) only [gimp, impB, isT, go_sem, seval])
  have hm : (1000 : Nat) ≤ maxLen := by decide
  refine ⟨⟨by omega, hn, by omega⟩, fun h => ?_, fun h => ?_⟩
  · have hf : hasF l name = false := by
      rw [← Bool.not_eq_true]; intro hh
      have := (idxP_ge (isN [name]) l).2 hh; omega
    have he : allS l name = [] := by rw [hasF_iff] at hf; simpa using hf
    simp [getS, he, hf]
  · have hf : hasF l name = true := (idxP_ge (isN [name]) l).1 h
    obtain ⟨x, hx, hxl, hxn, hxp⟩ := idxP_some (p := isN [name]) (l := l) ([], []) (by omega)
    rw [hx]
    refine ⟨by omega, ?_, hf.symm⟩
    rw [Int.toNat_natCast]
    have e : allS l name = (l.getD x ([], [])).2 :: allS (l.drop (x + 1)) name := by
      have e0 : l = l.take x ++ l.getD x ([], []) :: l.drop (x + 1) := by
        have := getD_of_lt (s := l) (d := ([], [])) hxl
        rw [List.getElem?_eq_getElem hxl] at this
        rw [← Option.some.inj this, ← List.drop_eq_getElem_cons hxl, List.take_append_drop]
      have e1 : (l.take x).filter (isN [name]) = [] := by
        rw [List.filter_eq_nil_iff]
        exact fun f hf => List.any_eq_false.1 hxn f hf
      have e2 : ∀ m : List Fld, m = l.take x ++ l.getD x ([], []) :: l.drop (x + 1) → allS m name = (l.getD x ([], [])).2 :: allS (l.drop (x + 1)) name := by
        rintro m rfl
        simp only [allS, List.filter_append, e1, List.nil_append, List.filter_cons_of_pos hxp, List.map_cons]
      exact e2 l e0
    simp [getS, e]
def tb_specGet : List Blk → List AV → Option (List Blk × AV × Prop)
  | [], [a0, .str name] => some ([], .tuple [.str (getS (dec_flds a0) name), .bool (hasF (dec_flds a0) name)], ((dec_flds a0).length ≤ 1000) ∧ (name.length ≤ maxLen) ∧ argOK a0 (enc_flds (dec_flds a0)))
  | _, _ => none
theorem tb_specGet_ok : ∀ E args E' res p, tb_specGet E args = some (E', res, p) → p → SpecE Tryz.prog 133 E args E' res := by
  intro E args E' res p h hp
  unfold tb_specGet at h
  split at h
  · simp only [Option.some.injEq, Prod.mk.injEq] at h
    obtain ⟨rfl, rfl, rfl⟩ := h
    exact SpecE.args (specGet _ _ hp.1 hp.2.1) (.cons hp.2.2 (.cons (argOK.refl _) .nil))
  · cases h
def T_specCount : Tbl := fun g E args => (addT nilT 62 Go.Proofs.Tryz.Hdr.tb_specAll) g E args
theorem T_specCount_ok : TblOK Tryz.prog T_specCount := (addT_ok nilT_ok (by decide +kernel) Go.Proofs.Tryz.Hdr.tb_specAll_ok)
set_option maxRecDepth 100000 in
set_option maxHeartbeats 4000000 in
theorem specCount (l : List Fld) (name : List UInt8) (hl : l.length ≤ 1000) (hn : name.length ≤ maxLen) : SpecE Tryz.prog 29 [] [enc_flds l, .str name] [] (.int .i64 (allS l name).length) := by
  refine specF0 (C := T_specCount) (wr := false) (D := fun _ => []) (U := fun _ => none) (res := [.int .i64 (allS l name).length]) Tryz.Ty.mixed T_specCount_ok Tryz.func29 (nA := 2) (by decide +kernel) rfl (fun _ => rfl) ?_
  simp only [Tryz.f29, bodyOf, rlOf]
  rw [W_V]
  simp (config := {maxSteps := 2000000}) only [T_specCount, Go.Proofs.Tryz.Hdr.tb_specAll, go_sem, seval]
  (try simp (config := {maxSteps := 2000000}) only [gimp, impB, isT, go_sem, seval])
  exact ⟨hl, hn⟩
def tb_specCount : List Blk → List AV → Option (List Blk × AV × Prop)
  | [], [a0, .str name] => some ([], .int .i64 (allS (dec_flds a0) name).length, ((dec_flds a0).length ≤ 1000) ∧ (name.length ≤ maxLen) ∧ argOK a0 (enc_flds (dec_flds a0)))
  | _, _ => none
theorem tb_specCount_ok : ∀ E args E' res p, tb_specCount E args = some (E', res, p) → p → SpecE Tryz.prog 29 E args E' res := by
  intro E args E' res p h hp
  unfold tb_specCount at h
  split at h
  · simp only [Option.some.injEq, Prod.mk.injEq] at h
    obtain ⟨rfl, rfl, rfl⟩ := h
    exact SpecE.args (specCount _ _ hp.1 hp.2.1) (.cons hp.2.2 (.cons (argOK.refl _) .nil))
  · cases h
def T_specCombined : Tbl := fun g E args => (addT (addT nilT 62 Go.Proofs.Tryz.Hdr.tb_specAll) 63 Go.Proofs.Tryz.Lists.tb_specJoin) g E args
theorem T_specCombined_ok : TblOK Tryz.prog T_specCombined := (addT_ok (addT_ok nilT_ok (by decide +kernel) Go.Proofs.Tryz.Hdr.tb_specAll_ok) (by decide +kernel) Go.Proofs.Tryz.Lists.tb_specJoin_ok)
set_option maxRecDepth 100000 in
set_option maxHeartbeats 4000000 in
theorem specCombined (l : List Fld) (name : List UInt8) (hl : l.length ≤ 1000) (hn : name.length ≤ maxLen) (hq : ∀ f ∈ l, f.2.length ≤ 1000000) : SpecE Tryz.prog 30 [] [enc_flds l, .str name] [] (.tuple [.str (combS l name), .bool (hasF l name)]) := by
  refine specF0 (C := T_specCombined) (wr := false) (D := fun _ => []) (U := fun _ => none) (res := [.str (combS l name), .bool (hasF l name)]) Tryz.Ty.mixed T_specCombined_ok Tryz.func30 (nA := 2) (by decide +kernel) rfl (fun _ => rfl) ?_
  simp only [Tryz.f30, bodyOf, rlOf]
  rw [W_V]
  simp (config := {maxSteps := 2000000}) only [T_specCombined, Go.Proofs.Tryz.Hdr.tb_specAll, Go.Proofs.Tryz.Lists.tb_specJoin, go_sem, seval]
  (try simp (config := {maxSteps := 2000000}) only [gimp, impB, isT, go_sem, seval])
  have h1 := allS_len l name
  have hj := joinS_len (l := allS l name) (m := 1000000) (fun e he => by obtain ⟨f, hf, rfl, _⟩ := allS_mem he; exact hq f hf)
  have hj2 : (joinS (allS l name)).length ≤ 1000 * (1000000 + 2) := Nat.le_trans hj (Nat.mul_le_mul (by omega) (Nat.le_refl _))
  rw [join_eq]
  refine ⟨⟨hl, hn⟩, ⟨by omega, by omega⟩, rfl, ?_⟩
  rw [hasF_iff]
  by_cases h : allS l name = []
  · simp [h]
  · have := List.length_pos_iff.2 h
    simp [h]; omega
def tb_specCombined : List Blk → List AV → Option (List Blk × AV × Prop)
  | [], [a0, .str name] => some ([], .tuple [.str (combS (dec_flds a0) name), .bool (hasF (dec_flds a0) name)], ((dec_flds a0).length ≤ 1000) ∧ (name.length ≤ maxLen) ∧ (∀ f ∈ (dec_flds a0), f.2.length ≤ 1000000) ∧ argOK a0 (enc_flds (dec_flds a0)))
  | _, _ => none
theorem tb_specCombined_ok : ∀ E args E' res p, tb_specCombined E args = some (E', res, p) → p → SpecE Tryz.prog 30 E args E' res := by
  intro E args E' res p h hp
  unfold tb_specCombined at h
  split at h
  · simp only [Option.some.injEq, Prod.mk.injEq] at h
    obtain ⟨rfl, rfl, rfl⟩ := h
    exact SpecE.args (specCombined _ _ hp.1 hp.2.1 hp.2.2.1) (.cons hp.2.2.2 (.cons (argOK.refl _) .nil))
  · cases h
end Go.Proofs.Tryz.Hdr
end
section
set_option linter.unusedVariables false
set_option linter.unusedSimpArgs false
namespace Go.Proofs.Tryz.Hdr
open Go Go.Abs Go.Proofs Go.Mdl
def T_specWith : Tbl := fun g E args => nilT g E args
theorem T_specWith_ok : TblOK Tryz.prog T_specWith := nilT_ok
set_option maxRecDepth 100000 in
set_option maxHeartbeats 4000000 in
theorem specWith (l : List Fld) (n v : List UInt8) (hl : l.length ≤ 1000000) : SpecE Tryz.prog 36 [] [enc_flds l, .str n, .str v] [.cells 2 false (.agg [.str [], .str []]) ((withS l n v).map enc_fld)] (.ref 0 0 (withS l n v).length (withS l n v).length) := by
  refine specFE (C := T_specWith) (wr := false) (D := fun _ => []) (U := fun _ => none) (E := []) (E' := [.cells 2 false (.agg [.str [], .str []]) ((withS l n v).map enc_fld)]) (res := [.ref 0 0 (withS l n v).length (withS l n v).length]) [192] Tryz.Ty.mixed T_specWith_ok Tryz.func36 (args := [enc_flds l, .str n, .str v]) (nE := 0) (nA := 3) (by decide +kernel) rfl rfl ?_
  simp only [Tryz.f36, bodyOf, rlOf]
  rw [W_V]
  simp (config := {maxSteps := 2000000}) only [T_specWith, go_sem, seval]
  (try simp (config := {maxSteps := 2000000}) only [gimp, impB, isT, go_sem, seval])
  have hm : min l.length (l.length + 1) = l.length := by omega
  have hd : List.drop l.length (AV.agg [.str [], .str []] :: List.replicate l.length (AV.agg [.str [], .str []])) = [AV.agg [.str [], .str []]] := by
    rw [← List.replicate_succ, List.drop_replicate]
    simp
  simp only [hm, Nat.zero_add, List.take_length, hd]
  refine ⟨by omega, by omega, by simp, ⟨by simp, by omega, by omega⟩, ⟨by simp, by simp⟩, by simp [withS], ?_⟩
  simp [withS, enc_fld, List.set_append]
def tb_specWith : List Blk → List AV → Option (List Blk × AV × Prop)
  | [], [a0, .str n, .str v] => some ([.cells 2 false (.agg [.str [], .str []]) ((withS (dec_flds a0) n v).map enc_fld)], .ref 0 0 (withS (dec_flds a0) n v).length (withS (dec_flds a0) n v).length, ((dec_flds a0).length ≤ 1000000) ∧ argOK a0 (enc_flds (dec_flds a0)))
  | _, _ => none
theorem tb_specWith_ok : ∀ E args E' res p, tb_specWith E args = some (E', res, p) → p → SpecE Tryz.prog 36 E args E' res := by
  intro E args E' res p h hp
  unfold tb_specWith at h
  split at h
  · simp only [Option.some.injEq, Prod.mk.injEq] at h
    obtain ⟨rfl, rfl, rfl⟩ := h
    exact SpecE.args (specWith _ _ _ hp.1) (.cons hp.2 (.cons (argOK.refl _) (.cons (argOK.refl _) .nil)))
  · cases h
end Go.Proofs.Tryz.Hdr
end
section
set_option linter.unusedVariables false
set_option linter.unusedSimpArgs false
namespace Go.Proofs.Tryz.HdrR
open Go Go.Abs Go.Proofs Go.Mdl
def T_specIs : Tbl := fun g E args => (addT nilT 23 Go.Proofs.Tryz.Oct.tb_specLowerR) g E args
theorem T_specIs_ok : TblOK Tryz.prog T_specIs := (addT_ok nilT_ok (by decide +kernel) Go.Proofs.Tryz.Oct.tb_specLowerR_ok)
set_option maxRecDepth 100000 in
set_option maxHeartbeats 4000000 in
theorem specIs (a b : List UInt8) (ha : a.length ≤ 1000000) (hb : b.length ≤ 1000000) : SpecE Tryz.prog 87 [] [.str a, .str b] [] (.bool (decide (lowerS a = lowerS b))) := by
  refine specF0 (C := T_specIs) (wr := false) (D := fun _ => []) (U := fun _ => none) (res := [.bool (decide (lowerS a = lowerS b))]) Tryz.Ty.mixed T_specIs_ok Tryz.func87 (nA := 2) (by decide +kernel) rfl (fun _ => rfl) ?_
  simp only [Tryz.f87, bodyOf, rlOf]
  rw [W_V]
  simp (config := {maxSteps := 2000000}) only [T_specIs, Go.Proofs.Tryz.Oct.tb_specLowerR, go_sem, seval]
  (try simp (config := {maxSteps := 2000000}) only [gimp, impB, isT, go_sem, seval])
  exact ⟨ha, hb⟩
def tb_specIs : List Blk → List AV → Option (List Blk × AV × Prop)
  | [], [.str a, .str b] => some ([], .bool (decide (lowerS a = lowerS b)), (a.length ≤ 1000000) ∧ (b.length ≤ 1000000))
  | _, _ => none
theorem tb_specIs_ok : ∀ E args E' res p, tb_specIs E args = some (E', res, p) → p → SpecE Tryz.prog 87 E args E' res := by
  intro E args E' res p h hp
  unfold tb_specIs at h
  split at h
  · simp only [Option.some.injEq, Prod.mk.injEq] at h
    obtain ⟨rfl, rfl, rfl⟩ := h
    exact (specIs _ _ hp.1 hp.2)
  · cases h
def T_specWith : Tbl := fun g E args => nilT g E args
theorem T_specWith_ok : TblOK Tryz.prog T_specWith := nilT_ok
set_option maxRecDepth 100000 in
set_option maxHeartbeats 4000000 in
theorem specWith (l : List Fld) (n v : List UInt8) (hl : l.length ≤ 1000000) : SpecE Tryz.prog 37 [] [enc_flds l, .str n, .str v] [.cells 2 false (.agg [.str [], .str []]) ((withS l n v).map enc_fld)] (.ref 0 0 (withS l n v).length (withS l n v).length) := by
  refine specFE (C := T_specWith) (wr := false) (D := fun _ => []) (U := fun _ => none) (E := []) (E' := [.cells 2 false (.agg [.str [], .str []]) ((withS l n v).map enc_fld)]) (res := [.ref 0 0 (withS l n v).length (withS l n v).length]) [128] Tryz.Ty.mixed T_specWith_ok Tryz.func37 (args := [enc_flds l, .str n, .str v]) (nE := 0) (nA := 3) (by decide +kernel) rfl rfl ?_
  simp only [Tryz.f37, bodyOf, rlOf]
  rw [W_V]
  simp (config := {maxSteps := 2000000}) only [T_specWith, go_sem, seval, true_and]
  (try simp (config := {maxSteps := 2000000}) only [gimp, impB, isT, go_sem, seval])
  refine ⟨by omega, ⟨by omega, by omega, by omega⟩, by simp [withS], by simp [withS, enc_fld]⟩
def tb_specWith : List Blk → List AV → Option (List Blk × AV × Prop)
  | [], [a0, .str n, .str v] => some ([.cells 2 false (.agg [.str [], .str []]) ((withS (dec_flds a0) n v).map enc_fld)], .ref 0 0 (withS (dec_flds a0) n v).length (withS (dec_flds a0) n v).length, ((dec_flds a0).length ≤ 1000000) ∧ argOK a0 (enc_flds (dec_flds a0)))
  | _, _ => none
theorem tb_specWith_ok : ∀ E args E' res p, tb_specWith E args = some (E', res, p) → p → SpecE Tryz.prog 37 E args E' res := by
  intro E args E' res p h hp
  unfold tb_specWith at h
  split at h
  · simp only [Option.some.injEq, Prod.mk.injEq] at h
    obtain ⟨rfl, rfl, rfl⟩ := h
    exact SpecE.args (specWith _ _ _ hp.1) (.cons hp.2 (.cons (argOK.refl _) (.cons (argOK.refl _) .nil)))
  · cases h
end Go.Proofs.Tryz.HdrR
end
section
set_option linter.unusedVariables false
set_option linter.unusedSimpArgs false
namespace Go.Mdl
open Go Go.Abs
end Go.Mdl
namespace Go.Proofs.Tryz.HdrR
open Go Go.Abs Go.Proofs Go.Mdl
def T_specAll : Tbl := fun g E args => (addT nilT 87 Go.Proofs.Tryz.HdrR.tb_specIs) g E args
theorem T_specAll_ok : TblOK Tryz.prog T_specAll := (addT_ok nilT_ok (by decide +kernel) Go.Proofs.Tryz.HdrR.tb_specIs_ok)
set_option maxRecDepth 100000 in
set_option maxHeartbeats 4000000 in
theorem specAll (l : List Fld) (name : List UInt8) (hl : l.length ≤ 1000000) (hn : name.length ≤ 1000000) (hf : ∀ f ∈ l, f.1.length ≤ 1000000) : SpecE Tryz.prog 47 [] [enc_flds l, .str name] [] (enc_strs (allS l name)) := by
  refine specF0 (C := T_specAll) (wr := false) (D := fun _ => []) (U := fun _ => none) (res := [enc_strs (allS l name)]) Tryz.Ty.mixed T_specAll_ok Tryz.func47 (nA := 2) (by decide +kernel) rfl (fun _ => rfl) ?_
  simp only [Tryz.f47, bodyOf, rlOf]
  rw [W_V]
  simp (config := {maxSteps := 2000000}) only [T_specAll, Go.Proofs.Tryz.HdrR.tb_specIs, go_sem, seval, true_and]
  (try simp (config := {maxSteps := 2000000}) only [gimp, impB, isT, go_sem, seval])
  refine VL_inv (X := Nat) (fun k => ⟨[(0, enc_flds l), (1, .str name), (5, .ref 128 0 (allS (l.take k) name).length (allS (l.take k) name).length), (6, .int .i64 k)], [(128, .cells 1 false (.str []) ((allS (l.take k) name).map .str))]⟩) (fun k => k ≤ l.length) (fun k => l.length - k) 0 ?_ ?_ ?_
  · simp only [allS, List.take_zero, List.filter_nil, go_sem, go_sem, seval]
    try rfl
  · exact Nat.zero_le _
  rintro k hk
  simp (config := {maxSteps := 2000000}) only [T_specAll, Go.Proofs.Tryz.HdrR.tb_specIs, go_sem, seval, true_and]
  (try simp (config := {maxSteps := 2000000}) only [gimp, impB, isT, go_sem, seval])
  have hs := fun h : k < l.length => allS_take_succ (l := l) name h
  have hle := allS_len (l.take k) name
  have hlt' : (l.take k).length ≤ 1000000 := by rw [List.length_take]; omega
  have hi : isN [name] (l.getD k ([], [])) = true ↔ lowerS (l.getD k ([], [])).1 = lowerS name := by rw [isN_one]; simp [foldS, eq_comm]
  refine ⟨fun hlt => ⟨by omega, ⟨hf _ (List.mem_of_getElem? (getD_of_lt (s := l) (d := ([], [])) (by omega))), hn⟩, fun hy => ⟨by omega, by omega, by omega, k + 1, ⟨⟨?_, by omega⟩, ?_⟩, by omega, by omega⟩, fun hno => ⟨by omega, k + 1, ⟨⟨?_, by omega⟩, ?_⟩, by omega, by omega⟩⟩, fun hge => ?_⟩
  · rw [hs (by omega), if_pos (hi.2 hy)]; simp
  · rw [hs (by omega), if_pos (hi.2 hy)]; simp
  · rw [hs (by omega), if_neg (fun h => hno (hi.1 h))]; simp
  · rw [hs (by omega), if_neg (fun h => hno (hi.1 h))]; simp
  · rw [List.take_length, List.take_of_length_le (by omega)]
def tb_specAll : List Blk → List AV → Option (List Blk × AV × Prop)
  | [], [a0, .str name] => some ([], enc_strs (allS (dec_flds a0) name), ((dec_flds a0).length ≤ 1000000) ∧ (name.length ≤ 1000000) ∧ (∀ f ∈ (dec_flds a0), f.1.length ≤ 1000000) ∧ argOK a0 (enc_flds (dec_flds a0)))
  | _, _ => none
theorem tb_specAll_ok : ∀ E args E' res p, tb_specAll E args = some (E', res, p) → p → SpecE Tryz.prog 47 E args E' res := by
  intro E args E' res p h hp
  unfold tb_specAll at h
  split at h
  · simp only [Option.some.injEq, Prod.mk.injEq] at h
    obtain ⟨rfl, rfl, rfl⟩ := h
    exact SpecE.args (specAll _ _ hp.1 hp.2.1 hp.2.2.1) (.cons hp.2.2.2 (.cons (argOK.refl _) .nil))
  · cases h
def T_specCombined : Tbl := fun g E args => (addT (addT nilT 47 Go.Proofs.Tryz.HdrR.tb_specAll) 48 Go.Proofs.Tryz.Lists.tb_specJoinR) g E args
theorem T_specCombined_ok : TblOK Tryz.prog T_specCombined := (addT_ok (addT_ok nilT_ok (by decide +kernel) Go.Proofs.Tryz.HdrR.tb_specAll_ok) (by decide +kernel) Go.Proofs.Tryz.Lists.tb_specJoinR_ok)
set_option maxRecDepth 100000 in
set_option maxHeartbeats 4000000 in
theorem specCombined (l : List Fld) (name : List UInt8) (hl : l.length ≤ 1000) (hn : name.length ≤ 1000000) (hf : ∀ f ∈ l, f.1.length ≤ 1000000) (hv : ∀ f ∈ l, f.2.length ≤ 1000000) : SpecE Tryz.prog 20 [] [enc_flds l, .str name] [] (.tuple [.str (combS l name), .bool (!decide (allS l name = []))]) := by
  refine specF0 (C := T_specCombined) (wr := false) (D := fun _ => []) (U := fun _ => none) (res := [.str (combS l name), .bool (!decide (allS l name = []))]) Tryz.Ty.mixed T_specCombined_ok Tryz.func20 (nA := 2) (by decide +kernel) rfl (fun _ => rfl) ?_
  simp only [Tryz.f20, bodyOf, rlOf]
  rw [W_V]
  simp (config := {maxSteps := 2000000}) only [T_specCombined, Go.Proofs.Tryz.HdrR.tb_specAll, Go.Proofs.Tryz.Lists.tb_specJoinR, go_sem, seval]
  (try simp (config := {maxSteps := 2000000}) only [gimp, impB, isT, go_sem, seval])
  have := allS_len l name
  refine ⟨⟨by omega, hn, hf⟩, ⟨by omega, fun x hx => ?_⟩, rfl, ?_⟩
  · simp only [allS, List.mem_map, List.mem_filter] at hx
    obtain ⟨f, hx, rfl⟩ := hx
    exact hv f hx.1
  · cases allS l name <;> simp
def tb_specCombined : List Blk → List AV → Option (List Blk × AV × Prop)
  | [], [a0, .str name] => some ([], .tuple [.str (combS (dec_flds a0) name), .bool (!decide (allS (dec_flds a0) name = []))], ((dec_flds a0).length ≤ 1000) ∧ (name.length ≤ 1000000) ∧ (∀ f ∈ (dec_flds a0), f.1.length ≤ 1000000) ∧ (∀ f ∈ (dec_flds a0), f.2.length ≤ 1000000) ∧ argOK a0 (enc_flds (dec_flds a0)))
  | _, _ => none
theorem tb_specCombined_ok : ∀ E args E' res p, tb_specCombined E args = some (E', res, p) → p → SpecE Tryz.prog 20 E args E' res := by
  intro E args E' res p h hp
  unfold tb_specCombined at h
  split at h
  · simp only [Option.some.injEq, Prod.mk.injEq] at h
    obtain ⟨rfl, rfl, rfl⟩ := h
    exact SpecE.args (specCombined _ _ hp.1 hp.2.1 hp.2.2.1 hp.2.2.2.1) (.cons hp.2.2.2.2 (.cons (argOK.refl _) .nil))
  · cases h
end Go.Proofs.Tryz.HdrR
end
section
set_option linter.unusedVariables false
set_option linter.unusedSimpArgs false
namespace Go.Mdl
open Go Go.Abs
theorem comb_len3 {l : List Fld} (n : List UInt8) (hl : l.length ≤ 1000) (hq : ∀ f ∈ l, f.2.length ≤ 900) : (combS l n).length ≤ 902000 := by
  have h3 := allS_len l n
  have h4 := joinS_len (l := allS l n) (m := 900) (fun e he => by obtain ⟨f, hf, rfl, _⟩ := allS_mem he; exact hq f hf)
  have h5 := Nat.mul_le_mul (show (allS l n).length ≤ 1000 by omega) (Nat.le_refl (900 + 2))
  unfold combS; omega
end Go.Mdl
end
section
set_option linter.unusedVariables false
set_option linter.unusedSimpArgs false
namespace Go.Proofs.Tryz.Cur
open Go Go.Abs Go.Proofs Go.Mdl
def T_specLeftK : Tbl := fun g E args => nilT g E args
theorem T_specLeftK_ok : TblOK Tryz.prog T_specLeftK := nilT_ok
set_option maxRecDepth 100000 in
set_option maxHeartbeats 4000000 in
theorem specLeftK (s : List UInt8) (a : Int) (h : 0 ≤ a ∧ a ≤ s.length) : SpecE Tryz.prog 41 [] [.radr [.str s, .int .i64 a]] [] (.str (s.drop a.toNat)) := by
  refine specF0 (C := T_specLeftK) (wr := false) (D := fun _ => []) (U := fun _ => none) (res := [.str (s.drop a.toNat)]) Tryz.Ty.mixed T_specLeftK_ok Tryz.func41 (nA := 1) (by decide +kernel) rfl (fun _ => rfl) ?_
  simp only [Tryz.f41, bodyOf, rlOf]
  rw [W_V]
  simp (config := {maxSteps := 2000000}) only [T_specLeftK, go_sem, reduceIte, Nat.reduceEqDiff, Nat.reduceAdd, Nat.reduceMul, Nat.reduceDiv, Nat.reduceMod, Nat.reduceSub, Nat.reduceBEq, Nat.reduceLT, Nat.reduceLeDiff, reduceCtorEq, Int.reduceNeg, Int.reduceEq, String.reduceEq, Int.reduceLT, Int.reduceLE, Int.reduceToNat, Int.reduceAdd, Int.reduceMul, Int.reduceSub]
  (try simp (config := {maxSteps := 2000000}) only [gimp, impB, isT, go_sem, reduceIte, Nat.reduceEqDiff, Nat.reduceAdd, Nat.reduceMul, Nat.reduceDiv, Nat.reduceMod, Nat.reduceSub, Nat.reduceBEq, Nat.reduceLT, Nat.reduceLeDiff, reduceCtorEq, Int.reduceNeg, Int.reduceEq, String.reduceEq, Int.reduceLT, Int.reduceLE, Int.reduceToNat, Int.reduceAdd, Int.reduceMul, Int.reduceSub])
  exact h
def tb_specLeftK : List Blk → List AV → Option (List Blk × AV × Prop)
  | [], [.radr [.str s, .int .i64 a]] => some ([], .str (s.drop a.toNat), (0 ≤ a ∧ a ≤ s.length))
  | _, _ => none
theorem tb_specLeftK_ok : ∀ E args E' res p, tb_specLeftK E args = some (E', res, p) → p → SpecE Tryz.prog 41 E args E' res := by
  intro E args E' res p h hp
  unfold tb_specLeftK at h
  split at h
  · simp only [Option.some.injEq, Prod.mk.injEq] at h
    obtain ⟨rfl, rfl, rfl⟩ := h
    exact (specLeftK _ _ hp)
  · cases h
def T_specDoneK : Tbl := fun g E args => (addT nilT 41 Go.Proofs.Tryz.Cur.tb_specLeftK) g E args
theorem T_specDoneK_ok : TblOK Tryz.prog T_specDoneK := (addT_ok nilT_ok (by decide +kernel) Go.Proofs.Tryz.Cur.tb_specLeftK_ok)
set_option maxRecDepth 100000 in
set_option maxHeartbeats 4000000 in
theorem specDoneK (s : List UInt8) (a : Int) (h : 0 ≤ a ∧ a ≤ s.length) : SpecE Tryz.prog 191 [] [.radr [.str s, .int .i64 a]] [] (.bool (decide (s.drop a.toNat = []))) := by
  refine specF0 (C := T_specDoneK) (wr := false) (D := fun _ => []) (U := fun _ => none) (res := [.bool (decide (s.drop a.toNat = []))]) Tryz.Ty.mixed T_specDoneK_ok Tryz.func191 (nA := 1) (by decide +kernel) rfl (fun _ => rfl) ?_
  simp only [Tryz.f191, bodyOf, rlOf]
  rw [W_V]
  simp (config := {maxSteps := 2000000}) only [T_specDoneK, Go.Proofs.Tryz.Cur.tb_specLeftK, go_sem, reduceIte, Nat.reduceEqDiff, Nat.reduceAdd, Nat.reduceMul, Nat.reduceDiv, Nat.reduceMod, Nat.reduceSub, Nat.reduceBEq, Nat.reduceLT, Nat.reduceLeDiff, reduceCtorEq, Int.reduceNeg, Int.reduceEq, String.reduceEq, Int.reduceLT, Int.reduceLE, Int.reduceToNat, Int.reduceAdd, Int.reduceMul, Int.reduceSub]
  (try simp (config := {maxSteps := 2000000}) only [gimp, impB, isT, go_sem, reduceIte, Nat.reduceEqDiff, Nat.reduceAdd, Nat.reduceMul, Nat.reduceDiv, Nat.reduceMod, Nat.reduceSub, Nat.reduceBEq, Nat.reduceLT, Nat.reduceLeDiff, reduceCtorEq, Int.reduceNeg, Int.reduceEq, String.reduceEq, Int.reduceLT, Int.reduceLE, Int.reduceToNat, Int.reduceAdd, Int.reduceMul, Int.reduceSub])
  exact h
def tb_specDoneK : List Blk → List AV → Option (List Blk × AV × Prop)
  | [], [.radr [.str s, .int .i64 a]] => some ([], .bool (decide (s.drop a.toNat = [])), (0 ≤ a ∧ a ≤ s.length))
  | _, _ => none
theorem tb_specDoneK_ok : ∀ E args E' res p, tb_specDoneK E args = some (E', res, p) → p → SpecE Tryz.prog 191 E args E' res := by
  intro E args E' res p h hp
  unfold tb_specDoneK at h
  split at h
  · simp only [Option.some.injEq, Prod.mk.injEq] at h
    obtain ⟨rfl, rfl, rfl⟩ := h
    exact (specDoneK _ _ hp)
  · cases h
end Go.Proofs.Tryz.Cur
namespace Go.Proofs.Tryz.Cac
open Go Go.Abs Go.Proofs Go.Mdl
def T_specOne : Tbl := fun g E args => (addT (addT (addT (addT (addT (addT nilT 38 Go.Proofs.Tryz.Cur.tb_specNew) 189 Go.Proofs.Tryz.Cur.tb_specToken) 114 Go.Proofs.Tryz.Cur.tb_specByte) 190 Go.Proofs.Tryz.Cur.tb_specQuoted) 191 Go.Proofs.Tryz.Cur.tb_specDoneK) 127 Go.Proofs.Tryz.Oct.tb_specLower) g E args
theorem T_specOne_ok : TblOK Tryz.prog T_specOne := (addT_ok (addT_ok (addT_ok (addT_ok (addT_ok (addT_ok nilT_ok (by decide +kernel) Go.Proofs.Tryz.Cur.tb_specNew_ok) (by decide +kernel) Go.Proofs.Tryz.Cur.tb_specToken_ok) (by decide +kernel) Go.Proofs.Tryz.Cur.tb_specByte_ok) (by decide +kernel) Go.Proofs.Tryz.Cur.tb_specQuoted_ok) (by decide +kernel) Go.Proofs.Tryz.Cur.tb_specDoneK_ok) (by decide +kernel) Go.Proofs.Tryz.Oct.tb_specLower_ok)
set_option maxRecDepth 100000 in
set_option maxHeartbeats 4000000 in
theorem specOne (s : List UInt8) (hs : s.length ≤ 1000000) : SpecE Tryz.prog 166 [] [.str s] [] (.tuple [.agg [.str (dirS s).1, .str (dirS s).2.1, .bool (dirS s).2.2], .bool (dirOk s)]) := by
  refine specF0 (C := T_specOne) (wr := false) (D := fun i => if i = 9 then [11] else []) (U := fun _ => none) (res := [.agg [.str (dirS s).1, .str (dirS s).2.1, .bool (dirS s).2.2], .bool (dirOk s)]) Tryz.Ty.mixed T_specOne_ok Tryz.func166 (nA := 1) (by decide +kernel) rfl (fun _ => rfl) ?_
  simp only [Tryz.f166, bodyOf, rlOf]
  rw [W_V]
  simp (config := {maxSteps := 2000000}) only [T_specOne, Go.Proofs.Tryz.Cur.tb_specNew, Go.Proofs.Tryz.Cur.tb_specToken, Go.Proofs.Tryz.Cur.tb_specByte, Go.Proofs.Tryz.Cur.tb_specQuoted, Go.Proofs.Tryz.Cur.tb_specDoneK, Go.Proofs.Tryz.Oct.tb_specLower, go_sem, reduceIte, Nat.reduceEqDiff, Nat.reduceAdd, Nat.reduceMul, Nat.reduceDiv, Nat.reduceMod, Nat.reduceSub, Nat.reduceBEq, Nat.reduceLT, Nat.reduceLeDiff, reduceCtorEq, Int.reduceNeg, Int.reduceEq, String.reduceEq, Int.reduceLT, Int.reduceLE, Int.reduceToNat, Int.reduceAdd, Int.reduceMul, Int.reduceSub]
  (try simp (config := {maxSteps := 2000000}) only [gimp, impB, isT, go_sem, reduceIte, Nat.reduceEqDiff, Nat.reduceAdd, Nat.reduceMul, Nat.reduceDiv, Nat.reduceMod, Nat.reduceSub, Nat.reduceBEq, Nat.reduceLT, Nat.reduceLeDiff, reduceCtorEq, Int.reduceNeg, Int.reduceEq, String.reduceEq, Int.reduceLT, Int.reduceLE, Int.reduceToNat, Int.reduceAdd, Int.reduceMul, Int.reduceSub])
  have hN : spanL tcharB s = dirN s := rfl
  have e61 : UInt8.ofNat 61 = (61 : UInt8) := rfl
  have hm : (1000000 : Nat) ≤ maxLen := by decide
  have hnl := dirN_le s
  have hnm : lowerS (s.take (dirN s)) = [] ↔ dirN s = 0 := by
    rw [← List.length_eq_zero_iff, lowerS_len, List.length_take]; omega
  have htl : (s.take (dirN s)).length ≤ maxLen := by rw [List.length_take]; omega
  rw [hN]
  simp only [e61, Int.zero_add, Int.toNat_natCast, hnm]
  by_cases H : (s.drop (dirN s)).head? = some 61
  · have hs1 : dirSet s = true := by simp [dirSet, H]
    have hlt := dirSet_lt hs1
    have e1 : ((dirN s : Nat) : Int) + 1 = ((dirN s + 1 : Nat) : Int) := by omega
    have hR : s.drop (dirN s + 1) = dirR s := rfl
    have hRl : (dirR s).length = s.length - (dirN s + 1) := by simp [dirR]
    simp only [H, if_true, decide_true, e1, Int.toNat_natCast, hR]
    have hk := spanL_le tcharB (dirR s)
    have hemp : (dirR s).take (spanL tcharB (dirR s)) = [] ↔ spanL tcharB (dirR s) = 0 := by
      rw [← List.length_eq_zero_iff, List.length_take]; omega
    have hql := qLen_le (dirR s)
    have hS : dirS s = (lowerS (s.take (dirN s)), dirV s, true) := by simp [dirS, hs1]
    have hV : dirV s = if spanL tcharB (dirR s) = 0 then qText (dirR s) else (dirR s).take (spanL tcharB (dirR s)) := by rw [dirV, if_pos hs1]
    have hO : dirOk s = ((if spanL tcharB (dirR s) = 0 then qHas (dirR s) else true) && (!decide (dirN s = 0) && decide (s.drop (dirN s + 1 + (if spanL tcharB (dirR s) = 0 then qLen (dirR s) else spanL tcharB (dirR s))) = []))) := by
      simp only [dirOk, dirQ, dirEnd, hs1, if_true]
    rw [hemp, hS, hV, hO]
    generalize spanL tcharB (dirR s) = k at *
    refine ⟨⟨by omega, hs⟩, htl, ⟨⟨by omega, by omega, hs⟩, rfl⟩, fun _ => ⟨⟨by omega, by omega, hs⟩, fun hz => ?_, fun hz => ?_⟩, fun h => by cases h⟩
    · subst hz
      have e3 : (((dirN s + 1 : Nat) : Int) + ((0 : Nat) : Int)).toNat = dirN s + 1 := by omega
      rw [e3, hR]
      have e4 : (((dirN s + 1 : Nat) : Int) + ((0 : Nat) : Int) + (qLen (dirR s) : Nat)).toNat = dirN s + 1 + qLen (dirR s) := by omega
      rw [e4]
      refine ⟨⟨by omega, by omega, hs⟩, ⟨fun _ _ => by omega, fun _ _ => by omega⟩, by simp, by simp [Bool.and_assoc]⟩
    · have e3 : (((dirN s + 1 : Nat) : Int) + (k : Nat)).toNat = dirN s + 1 + k := by omega
      rw [e3]
      exact ⟨⟨fun _ => by omega, fun _ => by omega⟩, by simp [hz], by simp [hz]⟩
  · have hs1 : dirSet s = false := decide_eq_false H
    simp only [H, if_false, decide_false]
    refine ⟨⟨by omega, hs⟩, htl, ⟨⟨by omega, by omega, hs⟩, rfl⟩, fun h => (by cases h), fun _ => ⟨⟨fun _ => by omega, fun _ => by omega⟩, ?_, ?_⟩⟩
    · simp [dirS, dirV, hs1]
    · simp [dirOk, dirQ, dirEnd, hs1]
def tb_specOne : List Blk → List AV → Option (List Blk × AV × Prop)
  | [], [.str s] => some ([], .tuple [.agg [.str (dirS s).1, .str (dirS s).2.1, .bool (dirS s).2.2], .bool (dirOk s)], (s.length ≤ 1000000))
  | _, _ => none
theorem tb_specOne_ok : ∀ E args E' res p, tb_specOne E args = some (E', res, p) → p → SpecE Tryz.prog 166 E args E' res := by
  intro E args E' res p h hp
  unfold tb_specOne at h
  split at h
  · simp only [Option.some.injEq, Prod.mk.injEq] at h
    obtain ⟨rfl, rfl, rfl⟩ := h
    exact (specOne _ hp)
  · cases h
def T_specParse : Tbl := fun g E args => (addT (addT nilT 31 Go.Proofs.Tryz.Lists.tb_specSplit) 166 Go.Proofs.Tryz.Cac.tb_specOne) g E args
theorem T_specParse_ok : TblOK Tryz.prog T_specParse := (addT_ok (addT_ok nilT_ok (by decide +kernel) Go.Proofs.Tryz.Lists.tb_specSplit_ok) (by decide +kernel) Go.Proofs.Tryz.Cac.tb_specOne_ok)
set_option maxRecDepth 100000 in
set_option maxHeartbeats 4000000 in
theorem specParse (s : List UInt8) (hs : s.length ≤ 100000000) (hsm : ∀ e ∈ splitS s, e.length ≤ 1000000) : SpecE Tryz.prog 130 [] [.str s] [] (.tuple [enc_dirs (dirsS s), .bool (dirsOk s)]) := by
  refine specF0 (C := T_specParse) (wr := false) (D := fun _ => []) (U := fun _ => none) (res := [enc_dirs (dirsS s), .bool (dirsOk s)]) Tryz.Ty.mixed T_specParse_ok Tryz.func130 (nA := 1) (by decide +kernel) rfl (fun _ => rfl) ?_
  simp only [Tryz.f130, bodyOf, rlOf]
  rw [W_V]
  simp (config := {maxSteps := 2000000}) only [T_specParse, Go.Proofs.Tryz.Lists.tb_specSplit, Go.Proofs.Tryz.Cac.tb_specOne, go_sem, reduceIte, Nat.reduceEqDiff, Nat.reduceAdd, Nat.reduceMul, Nat.reduceDiv, Nat.reduceMod, Nat.reduceSub, Nat.reduceBEq, Nat.reduceLT, Nat.reduceLeDiff, reduceCtorEq, Int.reduceNeg, Int.reduceEq, String.reduceEq, Int.reduceLT, Int.reduceLE, Int.reduceToNat, Int.reduceAdd, Int.reduceMul, Int.reduceSub]
  (try simp (config := {maxSteps := 2000000}) only [gimp, impB, isT, go_sem, reduceIte, Nat.reduceEqDiff, Nat.reduceAdd, Nat.reduceMul, Nat.reduceDiv, Nat.reduceMod, Nat.reduceSub, Nat.reduceBEq, Nat.reduceLT, Nat.reduceLeDiff, reduceCtorEq, Int.reduceNeg, Int.reduceEq, String.reduceEq, Int.reduceLT, Int.reduceLE, Int.reduceToNat, Int.reduceAdd, Int.reduceMul, Int.reduceSub])
  have hcnt := splitS_count s
  have hO : dirsOk s = (endsS s && (splitS s).all dirOk) := rfl
  have hS : dirsS s = if dirsOk s = true then (splitS s).map dirS else [] := rfl
  refine ⟨by omega, ?_⟩
  rw [hO] at hS
  rw [hO, hS]
  generalize endsS s = en at *
  generalize splitS s = w at *
  refine VL_inv (X := Nat) (fun k => ⟨[(5, .bool (en && (w.take k).all dirOk)), (6, .ref 5000 0 (w.take k).length (w.take k).length), (16, enc_strs w), (17, .int .i64 w.length), (18, .int .i64 k)], [(5000, .cells 3 false (.agg [.str [], .str [], .bool false]) (((w.take k).map dirS).map enc_dir))]⟩) (fun k => k ≤ w.length) (fun k => w.length - k) 0 ?_ ?_ ?_
  · simp only [List.take_zero, List.all_nil, List.map_nil, Bool.and_true, go_sem, go_sem, reduceIte, Nat.reduceEqDiff, Nat.reduceAdd, Nat.reduceMul, Nat.reduceDiv, Nat.reduceMod, Nat.reduceSub, Nat.reduceBEq, Nat.reduceLT, Nat.reduceLeDiff, reduceCtorEq, Int.reduceNeg, Int.reduceEq, String.reduceEq, Int.reduceLT, Int.reduceLE, Int.reduceToNat, Int.reduceAdd, Int.reduceMul, Int.reduceSub]
    try rfl
  · exact Nat.zero_le _
  rintro k hk
  simp (config := {maxSteps := 2000000}) only [T_specParse, Go.Proofs.Tryz.Lists.tb_specSplit, Go.Proofs.Tryz.Cac.tb_specOne, go_sem, reduceIte, Nat.reduceEqDiff, Nat.reduceAdd, Nat.reduceMul, Nat.reduceDiv, Nat.reduceMod, Nat.reduceSub, Nat.reduceBEq, Nat.reduceLT, Nat.reduceLeDiff, reduceCtorEq, Int.reduceNeg, Int.reduceEq, String.reduceEq, Int.reduceLT, Int.reduceLE, Int.reduceToNat, Int.reduceAdd, Int.reduceMul, Int.reduceSub]
  (try simp (config := {maxSteps := 2000000}) only [gimp, impB, isT, go_sem, reduceIte, Nat.reduceEqDiff, Nat.reduceAdd, Nat.reduceMul, Nat.reduceDiv, Nat.reduceMod, Nat.reduceSub, Nat.reduceBEq, Nat.reduceLT, Nat.reduceLeDiff, reduceCtorEq, Int.reduceNeg, Int.reduceEq, String.reduceEq, Int.reduceLT, Int.reduceLE, Int.reduceToNat, Int.reduceAdd, Int.reduceMul, Int.reduceSub])
  have hlk : (w.take k).length ≤ k := by rw [List.length_take]; omega
  have ht := fun h : k < w.length => take_succ_getD (s := w) [] h
  have hall : k < w.length → (w.take (k + 1)).all dirOk = ((w.take k).all dirOk && dirOk (w.getD k [])) := fun h => by
    rw [ht h, List.all_append]; simp only [List.all_cons, List.all_nil, Bool.and_true]
  refine ⟨fun hlt => ⟨by omega, hsm _ (List.mem_of_getElem? (getD_of_lt (s := w) (d := []) (by omega))), by omega, by omega, k + 1, ⟨⟨?_, ?_, by omega⟩, ?_⟩, by omega, by omega⟩, fun hge => ?_⟩
  · rw [hall (by omega), Bool.and_assoc]
  · rw [ht (by omega)]; simp
  · rw [ht (by omega)]; simp [enc_dir]
  · rw [List.take_of_length_le (show w.length ≤ k by omega)]
    refine ⟨fun h => ?_, fun h1 h2 => ?_⟩
    · have : ¬ (en = true ∧ w.all dirOk = true) := fun h2 => by rw [h2.1, h2.2] at h; cases h
      rw [if_neg this]; exact ⟨rfl, h.symm⟩
    · rw [if_pos ⟨h1, h2⟩, h1, h2, List.take_of_length_le (by simp)]; exact ⟨rfl, rfl⟩
def tb_specParse : List Blk → List AV → Option (List Blk × AV × Prop)
  | [], [.str s] => some ([], .tuple [enc_dirs (dirsS s), .bool (dirsOk s)], (s.length ≤ 100000000) ∧ (∀ e ∈ splitS s, e.length ≤ 1000000))
  | _, _ => none
theorem tb_specParse_ok : ∀ E args E' res p, tb_specParse E args = some (E', res, p) → p → SpecE Tryz.prog 130 E args E' res := by
  intro E args E' res p h hp
  unfold tb_specParse at h
  split at h
  · simp only [Option.some.injEq, Prod.mk.injEq] at h
    obtain ⟨rfl, rfl, rfl⟩ := h
    exact (specParse _ hp.1 hp.2)
  · cases h
def T_specControl : Tbl := fun g E args => (addT (addT nilT 30 Go.Proofs.Tryz.Hdr.tb_specCombined) 130 Go.Proofs.Tryz.Cac.tb_specParse) g E args
theorem T_specControl_ok : TblOK Tryz.prog T_specControl := (addT_ok (addT_ok nilT_ok (by decide +kernel) Go.Proofs.Tryz.Hdr.tb_specCombined_ok) (by decide +kernel) Go.Proofs.Tryz.Cac.tb_specParse_ok)
set_option maxRecDepth 100000 in
set_option maxHeartbeats 4000000 in
theorem specControl (l : List Fld) (hl : l.length ≤ 1000) (hq : ∀ f ∈ l, f.2.length ≤ 900) : SpecE Tryz.prog 90 [] [enc_flds l] [] (enc_dirs (ctlS l)) := by
  refine specF0 (C := T_specControl) (wr := false) (D := fun _ => []) (U := fun _ => none) (res := [enc_dirs (ctlS l)]) Tryz.Ty.mixed T_specControl_ok Tryz.func90 (nA := 1) (by decide +kernel) rfl (fun _ => rfl) ?_
  simp only [Tryz.f90, bodyOf, rlOf]
  rw [W_V]
  simp (config := {maxSteps := 2000000}) only [T_specControl, Go.Proofs.Tryz.Hdr.tb_specCombined, Go.Proofs.Tryz.Cac.tb_specParse, go_sem, reduceIte, Nat.reduceEqDiff, Nat.reduceAdd, Nat.reduceMul, Nat.reduceDiv, Nat.reduceMod, Nat.reduceSub, Nat.reduceBEq, Nat.reduceLT, Nat.reduceLeDiff, reduceCtorEq, Int.reduceNeg, Int.reduceEq, String.reduceEq, Int.reduceLT, Int.reduceLE, Int.reduceToNat, Int.reduceAdd, Int.reduceMul, Int.reduceSub]
  (try simp (config := {maxSteps := 2000000}) only [gimp, impB, isT, go_sem, reduceIte, Nat.reduceEqDiff, Nat.reduceAdd, Nat.reduceMul, Nat.reduceDiv, Nat.reduceMod, Nat.reduceSub, Nat.reduceBEq, Nat.reduceLT, Nat.reduceLeDiff, reduceCtorEq, Int.reduceNeg, Int.reduceEq, String.reduceEq, Int.reduceLT, Int.reduceLE, Int.reduceToNat, Int.reduceAdd, Int.reduceMul, Int.reduceSub])
  have h1 := comb_len3 nmCC hl hq
  exact ⟨⟨hl, by decide, fun f h => by have := hq f h; omega⟩, ⟨by have : (combS l [67, 97, 99, 104, 101, 45, 67, 111, 110, 116, 114, 111, 108]).length ≤ 902000 := h1; omega, fun e he => by have := (splitS_mem (s := combS l nmCC) he).1; omega⟩, rfl⟩
def tb_specControl : List Blk → List AV → Option (List Blk × AV × Prop)
  | [], [a0] => some ([], enc_dirs (ctlS (dec_flds a0)), ((dec_flds a0).length ≤ 1000) ∧ (∀ f ∈ (dec_flds a0), f.2.length ≤ 900) ∧ argOK a0 (enc_flds (dec_flds a0)))
  | _, _ => none
theorem tb_specControl_ok : ∀ E args E' res p, tb_specControl E args = some (E', res, p) → p → SpecE Tryz.prog 90 E args E' res := by
  intro E args E' res p h hp
  unfold tb_specControl at h
  split at h
  · simp only [Option.some.injEq, Prod.mk.injEq] at h
    obtain ⟨rfl, rfl, rfl⟩ := h
    exact SpecE.args (specControl _ hp.1 hp.2.1) (.cons hp.2.2 .nil)
  · cases h
def T_specFindP : Tbl := fun g E args => nilT g E args
theorem T_specFindP_ok : TblOK Tryz.prog T_specFindP := nilT_ok
set_option maxRecDepth 100000 in
set_option maxHeartbeats 4000000 in
theorem specFindP (n v : List UInt8) (b : Bool) (w : List UInt8) : SpecE Tryz.prog 129 [.cells 1 false (.str []) [.str w]] [.agg [.str n, .str v, .bool b], .ptr 0 0 0 1] [.cells 1 false (.str []) [.str w]] (.bool (decide (n = w))) := by
  refine specFE (C := T_specFindP) (wr := false) (D := fun _ => []) (U := fun _ => none) (E := [.cells 1 false (.str []) [.str w]]) (E' := [.cells 1 false (.str []) [.str w]]) (res := [.bool (decide (n = w))]) [] Tryz.Ty.mixed T_specFindP_ok Tryz.func129 (args := [.agg [.str n, .str v, .bool b], .ptr 0 0 0 1]) (nE := 1) (nA := 2) (by decide +kernel) rfl rfl ?_
  simp only [Tryz.f129, bodyOf, rlOf]
  rw [W_V]
  simp (config := {maxSteps := 2000000}) only [T_specFindP, go_sem, reduceIte, Nat.reduceEqDiff, Nat.reduceAdd, Nat.reduceMul, Nat.reduceDiv, Nat.reduceMod, Nat.reduceSub, Nat.reduceBEq, Nat.reduceLT, Nat.reduceLeDiff, reduceCtorEq, Int.reduceNeg, Int.reduceEq, String.reduceEq, Int.reduceLT, Int.reduceLE, Int.reduceToNat, Int.reduceAdd, Int.reduceMul, Int.reduceSub]
  (try simp (config := {maxSteps := 2000000}) only [gimp, impB, isT, go_sem, reduceIte, Nat.reduceEqDiff, Nat.reduceAdd, Nat.reduceMul, Nat.reduceDiv, Nat.reduceMod, Nat.reduceSub, Nat.reduceBEq, Nat.reduceLT, Nat.reduceLeDiff, reduceCtorEq, Int.reduceNeg, Int.reduceEq, String.reduceEq, Int.reduceLT, Int.reduceLE, Int.reduceToNat, Int.reduceAdd, Int.reduceMul, Int.reduceSub])
set_option maxRecDepth 100000 in
set_option maxHeartbeats 4000000 in
theorem specFindI (l : List Dir) (w : List UInt8) (hl : l.length ≤ maxLen) : SpecE Tryz.prog 128 [.cells 1 false (.str []) [.str w]] [enc_dirs l, .clo 129 0 [.ptr 0 0 0 1]] [.cells 1 false (.str []) [.str w]] (.int .i64 (idxP (fun d => decide (d.1 = w)) l)) := by
  exact SlcD.idx_D (by decide) (boxStr w) (fun _ => rfl) (p := fun d => decide (d.1 = w)) (q := fun _ => True) (fun x _ => specFindP x.1 x.2.1 x.2.2 w) l (fun _ _ => trivial) hl
def tb_specFindI : List Blk → List AV → Option (List Blk × AV × Prop)
  | [.cells 1 false d [.str w]], [a0, .clo 129 0 [.ptr 0 0 0 1]] => some ([.cells 1 false (.str []) [.str w]], .int .i64 (idxP (fun d => decide (d.1 = w)) (dec_dirs a0)), (d = .str []) ∧ ((dec_dirs a0).length ≤ maxLen) ∧ argOK a0 (enc_dirs (dec_dirs a0)))
  | _, _ => none
theorem tb_specFindI_ok : ∀ E args E' res p, tb_specFindI E args = some (E', res, p) → p → SpecE Tryz.prog 128 E args E' res := by
  intro E args E' res p h hp
  unfold tb_specFindI at h
  split at h
  · simp only [Option.some.injEq, Prod.mk.injEq] at h
    obtain ⟨rfl, rfl, rfl⟩ := h
    obtain ⟨rfl, hp⟩ := hp
    exact SpecE.args (specFindI _ _ hp.1) (.cons hp.2 (.cons (argOK.refl _) .nil))
  · cases h
def T_specFind : Tbl := fun g E args => (addT (addT nilT 127 Go.Proofs.Tryz.Oct.tb_specLower) 128 Go.Proofs.Tryz.Cac.tb_specFindI) g E args
theorem T_specFind_ok : TblOK Tryz.prog T_specFind := (addT_ok (addT_ok nilT_ok (by decide +kernel) Go.Proofs.Tryz.Oct.tb_specLower_ok) (by decide +kernel) Go.Proofs.Tryz.Cac.tb_specFindI_ok)
set_option maxRecDepth 100000 in
set_option maxHeartbeats 4000000 in
theorem specFind (l : List Dir) (n : List UInt8) (hl : l.length ≤ maxLen) (hn : n.length ≤ maxLen) : SpecE Tryz.prog 89 [] [enc_dirs l, .str n] [] (.int .i64 (idxP (dirIs n) l)) := by
  refine specF0 (C := T_specFind) (wr := false) (D := fun _ => []) (U := fun _ => none) (res := [.int .i64 (idxP (dirIs n) l)]) Tryz.Ty.mixed T_specFind_ok Tryz.func89 (nA := 2) (by decide +kernel) rfl (fun _ => rfl) ?_
  simp only [Tryz.f89, bodyOf, rlOf]
  rw [W_V]
  simp (config := {maxSteps := 2000000}) only [T_specFind, Go.Proofs.Tryz.Oct.tb_specLower, Go.Proofs.Tryz.Cac.tb_specFindI, go_sem, reduceIte, Nat.reduceEqDiff, Nat.reduceAdd, Nat.reduceMul, Nat.reduceDiv, Nat.reduceMod, Nat.reduceSub, Nat.reduceBEq, Nat.reduceLT, Nat.reduceLeDiff, reduceCtorEq, Int.reduceNeg, Int.reduceEq, String.reduceEq, Int.reduceLT, Int.reduceLE, Int.reduceToNat, Int.reduceAdd, Int.reduceMul, Int.reduceSub]
  (try simp (config := {maxSteps := 2000000}) only [gimp, impB, isT, go_sem, reduceIte, Nat.reduceEqDiff, Nat.reduceAdd, Nat.reduceMul, Nat.reduceDiv, Nat.reduceMod, Nat.reduceSub, Nat.reduceBEq, Nat.reduceLT, Nat.reduceLeDiff, reduceCtorEq, Int.reduceNeg, Int.reduceEq, String.reduceEq, Int.reduceLT, Int.reduceLE, Int.reduceToNat, Int.reduceAdd, Int.reduceMul, Int.reduceSub])
  exact ⟨hn, hl, rfl⟩
def tb_specFind : List Blk → List AV → Option (List Blk × AV × Prop)
  | [], [a0, .str n] => some ([], .int .i64 (idxP (dirIs n) (dec_dirs a0)), ((dec_dirs a0).length ≤ maxLen) ∧ (n.length ≤ maxLen) ∧ argOK a0 (enc_dirs (dec_dirs a0)))
  | _, _ => none
theorem tb_specFind_ok : ∀ E args E' res p, tb_specFind E args = some (E', res, p) → p → SpecE Tryz.prog 89 E args E' res := by
  intro E args E' res p h hp
  unfold tb_specFind at h
  split at h
  · simp only [Option.some.injEq, Prod.mk.injEq] at h
    obtain ⟨rfl, rfl, rfl⟩ := h
    exact SpecE.args (specFind _ _ hp.1 hp.2.1) (.cons hp.2.2 (.cons (argOK.refl _) .nil))
  · cases h
def T_specHas : Tbl := fun g E args => (addT (addT nilT 90 Go.Proofs.Tryz.Cac.tb_specControl) 89 Go.Proofs.Tryz.Cac.tb_specFind) g E args
theorem T_specHas_ok : TblOK Tryz.prog T_specHas := (addT_ok (addT_ok nilT_ok (by decide +kernel) Go.Proofs.Tryz.Cac.tb_specControl_ok) (by decide +kernel) Go.Proofs.Tryz.Cac.tb_specFind_ok)
set_option maxRecDepth 100000 in
set_option maxHeartbeats 4000000 in
theorem specHas (l : List Fld) (n : List UInt8) (hl : l.length ≤ 1000) (hq : ∀ f ∈ l, f.2.length ≤ 900) (hn : n.length ≤ maxLen) : SpecE Tryz.prog 54 [] [enc_flds l, .str n] [] (.bool (ctlHas l n)) := by
  refine specF0 (C := T_specHas) (wr := false) (D := fun _ => []) (U := fun _ => none) (res := [.bool (ctlHas l n)]) Tryz.Ty.mixed T_specHas_ok Tryz.func54 (nA := 2) (by decide +kernel) rfl (fun _ => rfl) ?_
  simp only [Tryz.f54, bodyOf, rlOf]
  rw [W_V]
  simp (config := {maxSteps := 2000000}) only [T_specHas, Go.Proofs.Tryz.Cac.tb_specControl, Go.Proofs.Tryz.Cac.tb_specFind, go_sem, reduceIte, Nat.reduceEqDiff, Nat.reduceAdd, Nat.reduceMul, Nat.reduceDiv, Nat.reduceMod, Nat.reduceSub, Nat.reduceBEq, Nat.reduceLT, Nat.reduceLeDiff, reduceCtorEq, Int.reduceNeg, Int.reduceEq, String.reduceEq, Int.reduceLT, Int.reduceLE, Int.reduceToNat, Int.reduceAdd, Int.reduceMul, Int.reduceSub]
  (try simp (config := {maxSteps := 2000000}) only [gimp, impB, isT, go_sem, reduceIte, Nat.reduceEqDiff, Nat.reduceAdd, Nat.reduceMul, Nat.reduceDiv, Nat.reduceMod, Nat.reduceSub, Nat.reduceBEq, Nat.reduceLT, Nat.reduceLeDiff, reduceCtorEq, Int.reduceNeg, Int.reduceEq, String.reduceEq, Int.reduceLT, Int.reduceLE, Int.reduceToNat, Int.reduceAdd, Int.reduceMul, Int.reduceSub])
  have hcnt : (ctlS l).length ≤ maxLen := by
    have h1 := comb_len3 nmCC hl hq
    have h2 := dirsS_count (combS l nmCC)
    have hm : (902001 : Nat) ≤ maxLen := by decide
    unfold ctlS; omega
  refine ⟨⟨hl, hq⟩, ⟨hcnt, hn⟩, ?_⟩
  rw [Bool.eq_iff_iff, decide_eq_true_eq, idxP_ge]; rfl
def tb_specHas : List Blk → List AV → Option (List Blk × AV × Prop)
  | [], [a0, .str n] => some ([], .bool (ctlHas (dec_flds a0) n), ((dec_flds a0).length ≤ 1000) ∧ (∀ f ∈ (dec_flds a0), f.2.length ≤ 900) ∧ (n.length ≤ maxLen) ∧ argOK a0 (enc_flds (dec_flds a0)))
  | _, _ => none
theorem tb_specHas_ok : ∀ E args E' res p, tb_specHas E args = some (E', res, p) → p → SpecE Tryz.prog 54 E args E' res := by
  intro E args E' res p h hp
  unfold tb_specHas at h
  split at h
  · simp only [Option.some.injEq, Prod.mk.injEq] at h
    obtain ⟨rfl, rfl, rfl⟩ := h
    exact SpecE.args (specHas _ _ hp.1 hp.2.1 hp.2.2.1) (.cons hp.2.2.2 (.cons (argOK.refl _) .nil))
  · cases h
def T_specAge : Tbl := fun g E args => (addT (addT (addT nilT 90 Go.Proofs.Tryz.Cac.tb_specControl) 89 Go.Proofs.Tryz.Cac.tb_specFind) 121 Go.Proofs.Tryz.Dig.tb_specDec) g E args
theorem T_specAge_ok : TblOK Tryz.prog T_specAge := (addT_ok (addT_ok (addT_ok nilT_ok (by decide +kernel) Go.Proofs.Tryz.Cac.tb_specControl_ok) (by decide +kernel) Go.Proofs.Tryz.Cac.tb_specFind_ok) (by decide +kernel) Go.Proofs.Tryz.Dig.tb_specDec_ok)
set_option maxRecDepth 100000 in
set_option maxHeartbeats 4000000 in
theorem specAge (l : List Fld) (hl : l.length ≤ 1000) (hq : ∀ f ∈ l, f.2.length ≤ 900) : SpecE Tryz.prog 94 [] [enc_flds l] [] (.tuple [.int .i64 (ageN l), .bool (ageOk l)]) := by
  refine specF0 (C := T_specAge) (wr := false) (D := fun _ => []) (U := fun _ => none) (res := [.int .i64 (ageN l), .bool (ageOk l)]) Tryz.Ty.mixed T_specAge_ok Tryz.func94 (nA := 1) (by decide +kernel) rfl (fun _ => rfl) ?_
  simp only [Tryz.f94, bodyOf, rlOf]
  rw [W_V]
  simp (config := {maxSteps := 2000000}) only [T_specAge, Go.Proofs.Tryz.Cac.tb_specControl, Go.Proofs.Tryz.Cac.tb_specFind, Go.Proofs.Tryz.Dig.tb_specDec, go_sem, reduceIte, Nat.reduceEqDiff, Nat.reduceAdd, Nat.reduceMul, Nat.reduceDiv, Nat.reduceMod, Nat.reduceSub, Nat.reduceBEq, Nat.reduceLT, Nat.reduceLeDiff, reduceCtorEq, Int.reduceNeg, Int.reduceEq, String.reduceEq, Int.reduceLT, Int.reduceLE, Int.reduceToNat, Int.reduceAdd, Int.reduceMul, Int.reduceSub]
  (try simp (config := {maxSteps := 2000000}) only [gimp, impB, isT, go_sem, reduceIte, Nat.reduceEqDiff, Nat.reduceAdd, Nat.reduceMul, Nat.reduceDiv, Nat.reduceMod, Nat.reduceSub, Nat.reduceBEq, Nat.reduceLT, Nat.reduceLeDiff, reduceCtorEq, Int.reduceNeg, Int.reduceEq, String.reduceEq, Int.reduceLT, Int.reduceLE, Int.reduceToNat, Int.reduceAdd, Int.reduceMul, Int.reduceSub])
  have hcnt : (ctlS l).length ≤ maxLen := by
    have h1 := comb_len3 nmCC hl hq
    have h2 := dirsS_count (combS l nmCC)
    have hm : (902001 : Nat) ≤ maxLen := by decide
    unfold ctlS; omega
  have hW : [109, 97, 120, 45, 97, 103, 101] = wdAge := rfl
  rw [hW]
  have hge := idxP_ge (dirIs wdAge) (ctlS l)
  have hH : ctlHas l wdAge = (ctlS l).any (dirIs wdAge) := rfl
  refine ⟨⟨hl, hq⟩, ⟨hcnt, by decide⟩, fun h => ?_, fun h => ?_⟩
  · have hno : ctlHas l wdAge = false := by
      rw [hH, ← Bool.not_eq_true, ← hge]; omega
    simp [ageN, ageOk, hno]
  · have hyes : (ctlS l).any (dirIs wdAge) = true := hge.1 h
    have hi : idxP (dirIs wdAge) (ctlS l) = (((ctlS l).findIdx (dirIs wdAge) : Nat) : Int) := by unfold idxP; rw [if_pos hyes]
    have hx : (ctlS l).findIdx (dirIs wdAge) < (ctlS l).length := List.findIdx_lt_length.2 (List.any_eq_true.1 hyes)
    rw [hi, Int.toNat_natCast]
    have hV : ((ctlS l).getD ((ctlS l).findIdx (dirIs wdAge)) dir0).2.1 = ageV l := rfl
    rw [hV, ageN, ageOk, hH, hyes, if_pos rfl]
    refine ⟨by omega, fun h5 => ?_, fun h5 => ?_⟩
    · rw [if_pos h5, h5]; exact ⟨rfl, rfl⟩
    · rw [if_neg h5, decide_eq_false h5]; exact ⟨rfl, rfl⟩
def tb_specAge : List Blk → List AV → Option (List Blk × AV × Prop)
  | [], [a0] => some ([], .tuple [.int .i64 (ageN (dec_flds a0)), .bool (ageOk (dec_flds a0))], ((dec_flds a0).length ≤ 1000) ∧ (∀ f ∈ (dec_flds a0), f.2.length ≤ 900) ∧ argOK a0 (enc_flds (dec_flds a0)))
  | _, _ => none
theorem tb_specAge_ok : ∀ E args E' res p, tb_specAge E args = some (E', res, p) → p → SpecE Tryz.prog 94 E args E' res := by
  intro E args E' res p h hp
  unfold tb_specAge at h
  split at h
  · simp only [Option.some.injEq, Prod.mk.injEq] at h
    obtain ⟨rfl, rfl, rfl⟩ := h
    exact SpecE.args (specAge _ hp.1 hp.2.1) (.cons hp.2.2 .nil)
  · cases h
def T_specPragma : Tbl := fun g E args => (addT (addT nilT 30 Go.Proofs.Tryz.Hdr.tb_specCombined) 88 Go.Proofs.Tryz.Lists.tb_specHas) g E args
theorem T_specPragma_ok : TblOK Tryz.prog T_specPragma := (addT_ok (addT_ok nilT_ok (by decide +kernel) Go.Proofs.Tryz.Hdr.tb_specCombined_ok) (by decide +kernel) Go.Proofs.Tryz.Lists.tb_specHas_ok)
set_option maxRecDepth 100000 in
set_option maxHeartbeats 4000000 in
theorem specPragma (l : List Fld) (hl : l.length ≤ 1000) (hq : ∀ f ∈ l, f.2.length ≤ 900) : SpecE Tryz.prog 53 [] [enc_flds l] [] (.bool (pragS l)) := by
  refine specF0 (C := T_specPragma) (wr := false) (D := fun _ => []) (U := fun _ => none) (res := [.bool (pragS l)]) Tryz.Ty.mixed T_specPragma_ok Tryz.func53 (nA := 1) (by decide +kernel) rfl (fun _ => rfl) ?_
  simp only [Tryz.f53, bodyOf, rlOf]
  rw [W_V]
  simp (config := {maxSteps := 2000000}) only [T_specPragma, Go.Proofs.Tryz.Hdr.tb_specCombined, Go.Proofs.Tryz.Lists.tb_specHas, go_sem, reduceIte, Nat.reduceEqDiff, Nat.reduceAdd, Nat.reduceMul, Nat.reduceDiv, Nat.reduceMod, Nat.reduceSub, Nat.reduceBEq, Nat.reduceLT, Nat.reduceLeDiff, reduceCtorEq, Int.reduceNeg, Int.reduceEq, String.reduceEq, Int.reduceLT, Int.reduceLE, Int.reduceToNat, Int.reduceAdd, Int.reduceMul, Int.reduceSub]
  (try simp (config := {maxSteps := 2000000}) only [gimp, impB, isT, go_sem, reduceIte, Nat.reduceEqDiff, Nat.reduceAdd, Nat.reduceMul, Nat.reduceDiv, Nat.reduceMod, Nat.reduceSub, Nat.reduceBEq, Nat.reduceLT, Nat.reduceLeDiff, reduceCtorEq, Int.reduceNeg, Int.reduceEq, String.reduceEq, Int.reduceLT, Int.reduceLE, Int.reduceToNat, Int.reduceAdd, Int.reduceMul, Int.reduceSub])
  have h1 := comb_len3 [80, 114, 97, 103, 109, 97] hl hq
  exact ⟨⟨hl, by decide, fun f h => by have := hq f h; omega⟩, by omega, rfl⟩
def tb_specPragma : List Blk → List AV → Option (List Blk × AV × Prop)
  | [], [a0] => some ([], .bool (pragS (dec_flds a0)), ((dec_flds a0).length ≤ 1000) ∧ (∀ f ∈ (dec_flds a0), f.2.length ≤ 900) ∧ argOK a0 (enc_flds (dec_flds a0)))
  | _, _ => none
theorem tb_specPragma_ok : ∀ E args E' res p, tb_specPragma E args = some (E', res, p) → p → SpecE Tryz.prog 53 E args E' res := by
  intro E args E' res p h hp
  unfold tb_specPragma at h
  split at h
  · simp only [Option.some.injEq, Prod.mk.injEq] at h
    obtain ⟨rfl, rfl, rfl⟩ := h
    exact SpecE.args (specPragma _ hp.1 hp.2.1) (.cons hp.2.2 .nil)
  · cases h
end Go.Proofs.Tryz.Cac
end
section
set_option linter.unusedVariables false
set_option linter.unusedSimpArgs false
namespace Go.Mdl
open Go Go.Abs
def refD (s : List UInt8) : Dir := if dirN s = 0 then ([], [], false) else dirS s
end Go.Mdl
namespace Go.Proofs.Tryz.CacR
open Go Go.Abs Go.Proofs Go.Mdl
def T_specOneR : Tbl := fun g E args => (addT (addT (addT nilT 209 Go.Proofs.Tryz.Cur.tb_specTokenR) 210 Go.Proofs.Tryz.Cur.tb_specQuotedR) 23 Go.Proofs.Tryz.Oct.tb_specLowerR) g E args
theorem T_specOneR_ok : TblOK Tryz.prog T_specOneR := (addT_ok (addT_ok (addT_ok nilT_ok (by decide +kernel) Go.Proofs.Tryz.Cur.tb_specTokenR_ok) (by decide +kernel) Go.Proofs.Tryz.Cur.tb_specQuotedR_ok) (by decide +kernel) Go.Proofs.Tryz.Oct.tb_specLowerR_ok)
set_option maxRecDepth 100000 in
set_option maxHeartbeats 4000000 in
theorem specOneR (s : List UInt8) (hs : s.length ≤ 1000000) : SpecE Tryz.prog 192 [] [.str s] [] (.tuple [.agg [.str (refD s).1, .str (refD s).2.1, .bool (refD s).2.2], .bool (dirOk s)]) := by
  refine specF0 (C := T_specOneR) (wr := false) (D := fun _ => []) (U := fun _ => none) (res := [.agg [.str (refD s).1, .str (refD s).2.1, .bool (refD s).2.2], .bool (dirOk s)]) Tryz.Ty.mixed T_specOneR_ok Tryz.func192 (nA := 1) (by decide +kernel) rfl (fun _ => rfl) ?_
  simp only [Tryz.f192, bodyOf, rlOf]
  rw [W_V]
  simp (config := {maxSteps := 2000000}) only [T_specOneR, Go.Proofs.Tryz.Cur.tb_specTokenR, Go.Proofs.Tryz.Cur.tb_specQuotedR, Go.Proofs.Tryz.Oct.tb_specLowerR, go_sem, seval]
  (try simp (config := {maxSteps := 2000000}) only [gimp, impB, isT, go_sem, seval])
  have hN : spanL tcharB s = dirN s := rfl
  have hnl := dirN_le s
  have htl : (s.take (dirN s)).length ≤ 1000000 := by rw [List.length_take]; omega
  have hlow : dirN s = 0 → lowerS (s.take (dirN s)) = [] := fun h => by rw [h]; rfl
  have hsetiff : dirSet s = true ↔ (dirN s < s.length ∧ s.getD (dirN s) 0 = 61) := by
    simp only [dirSet, decide_eq_true_eq, Cur.head_iff]
    have hd : (s.drop (dirN s)).getD 0 0 = s.getD (dirN s) 0 := drop_getD0
    rw [hd]
    constructor
    · rintro ⟨h1, h2⟩
      have := List.length_pos_iff.2 h1
      rw [List.length_drop] at this
      exact ⟨by omega, h2⟩
    · rintro ⟨h1, h2⟩
      exact ⟨List.length_pos_iff.1 (by rw [List.length_drop]; omega), h2⟩
  have hR : s.drop (dirN s + 1) = dirR s := rfl
  have hRl : (dirR s).length = s.length - (dirN s + 1) := by simp [dirR]
  rw [hN, hR]
  have hoff : dirSet s = false → dirS s = (lowerS (s.take (dirN s)), [], false) := fun h => by simp [dirS, dirV, h]
  have hoffk : dirSet s = false → dirOk s = (!decide (dirN s = 0) && decide (s.drop (dirN s) = [])) := fun h => by simp [dirOk, dirQ, dirEnd, h]
  refine ⟨hs, by omega, htl, fun h => ?_, fun h1 h2 => ⟨by omega, fun h3 => ?_, fun h3 => ?_⟩⟩
  · by_cases h0 : dirN s = 0
    · have hok : dirOk s = false := by simp [dirOk, h0]
      refine ⟨?_, ?_⟩
      · rw [refD, if_pos h0, hlow h0]
      · rw [hok, decide_eq_false_iff_not]; omega
    · have hlen : dirN s = s.length := by omega
      have hs0 : dirSet s = false := by rw [← Bool.not_eq_true, hsetiff]; omega
      refine ⟨?_, ?_⟩
      · rw [refD, if_neg h0, hoff hs0]
      · have e : s.drop (dirN s) = [] := List.drop_eq_nil_of_le (by omega)
        have hp : decide (0 < (dirN s : Int)) = true := by rw [decide_eq_true_eq]; omega
        rw [hoffk hs0, hp, decide_eq_false h0, decide_eq_true e]; rfl
  · have h0 : ¬ dirN s = 0 := by omega
    have hs0 : dirSet s = false := by rw [← Bool.not_eq_true, hsetiff]; exact fun h => h3 h.2
    refine ⟨?_, ?_⟩
    · rw [refD, if_neg h0, hoff hs0]
    · have e : s.drop (dirN s) ≠ [] := List.length_pos_iff.1 (by rw [List.length_drop]; omega)
      rw [hoffk hs0, decide_eq_false e, Bool.and_false]
  · have h0 : ¬ dirN s = 0 := by omega
    have hs1 : dirSet s = true := hsetiff.2 ⟨by omega, h3⟩
    have hk := spanL_le tcharB (dirR s)
    have hql := qLen_le (dirR s)
    have hS : dirS s = (lowerS (s.take (dirN s)), dirV s, true) := by simp [dirS, hs1]
    have hV : dirV s = if spanL tcharB (dirR s) = 0 then qText (dirR s) else (dirR s).take (spanL tcharB (dirR s)) := by rw [dirV, if_pos hs1]
    have hO : dirOk s = ((if spanL tcharB (dirR s) = 0 then qHas (dirR s) else true) && (!decide (dirN s = 0) && decide (s.drop (dirN s + 1 + (if spanL tcharB (dirR s) = 0 then qLen (dirR s) else spanL tcharB (dirR s))) = []))) := by
      simp only [dirOk, dirQ, dirEnd, hs1, if_true]
    have hdn : ∀ k, k ≤ (dirR s).length → (s.drop (dirN s + 1 + k) = [] ↔ (k : Int) = ((dirR s).length : Int)) := fun k hk2 => by
      rw [List.drop_eq_nil_iff, hRl]; omega
    rw [refD, if_neg h0, hS, hV, hO]
    have hqh := qHas_len (dirR s)
    generalize spanL tcharB (dirR s) = k at *
    refine ⟨by omega, by omega, by omega, by omega, fun h4 => ?_, fun h4 => ⟨by omega, ?_, ?_⟩⟩
    · have hk0 : ¬ k = 0 := by omega
      refine ⟨by simp [hk0], ?_⟩
      rw [if_neg hk0, if_neg hk0, decide_eq_false h0]
      simp only [Bool.not_false, Bool.true_and]
      rw [Bool.eq_iff_iff, decide_eq_true_eq, decide_eq_true_eq, hdn k hk]
    · have hk0 : k = 0 := by omega
      simp [hk0]
    · have hk0 : k = 0 := by omega
      rw [if_pos hk0, if_pos hk0, decide_eq_false h0, hqh]
      simp only [Bool.not_false, Bool.true_and]
      congr 1
      rw [Bool.eq_iff_iff, decide_eq_true_eq, decide_eq_true_eq, hdn _ hql]
def tb_specOneR : List Blk → List AV → Option (List Blk × AV × Prop)
  | [], [.str s] => some ([], .tuple [.agg [.str (refD s).1, .str (refD s).2.1, .bool (refD s).2.2], .bool (dirOk s)], (s.length ≤ 1000000))
  | _, _ => none
theorem tb_specOneR_ok : ∀ E args E' res p, tb_specOneR E args = some (E', res, p) → p → SpecE Tryz.prog 192 E args E' res := by
  intro E args E' res p h hp
  unfold tb_specOneR at h
  split at h
  · simp only [Option.some.injEq, Prod.mk.injEq] at h
    obtain ⟨rfl, rfl, rfl⟩ := h
    exact (specOneR _ hp)
  · cases h
def T_specParseR : Tbl := fun g E args => (addT (addT nilT 21 Go.Proofs.Tryz.Lists.tb_specSplitR) 192 Go.Proofs.Tryz.CacR.tb_specOneR) g E args
theorem T_specParseR_ok : TblOK Tryz.prog T_specParseR := (addT_ok (addT_ok nilT_ok (by decide +kernel) Go.Proofs.Tryz.Lists.tb_specSplitR_ok) (by decide +kernel) Go.Proofs.Tryz.CacR.tb_specOneR_ok)
set_option maxRecDepth 100000 in
set_option maxHeartbeats 4000000 in
theorem specParseR (s : List UInt8) (hs : s.length ≤ 1000000) : SpecE Tryz.prog 167 [] [.str s] [] (.tuple [enc_dirs (dirsS s), .bool (dirsOk s)]) := by
  refine specF0 (C := T_specParseR) (wr := false) (D := fun _ => []) (U := fun _ => none) (res := [enc_dirs (dirsS s), .bool (dirsOk s)]) Tryz.Ty.mixed T_specParseR_ok Tryz.func167 (nA := 1) (by decide +kernel) rfl (fun _ => rfl) ?_
  simp only [Tryz.f167, bodyOf, rlOf]
  rw [W_V]
  simp (config := {maxSteps := 2000000}) only [T_specParseR, Go.Proofs.Tryz.Lists.tb_specSplitR, Go.Proofs.Tryz.CacR.tb_specOneR, go_sem, seval]
  (try simp (config := {maxSteps := 2000000}) only [gimp, impB, isT, go_sem, seval])
  have hcnt := splitS_count s
  have hsm : ∀ e ∈ splitS s, e.length ≤ 1000000 := fun e he => by have := (splitS_mem he).1; omega
  have hO : dirsOk s = (endsS s && (splitS s).all dirOk) := rfl
  have hS : dirsS s = if dirsOk s = true then (splitS s).map dirS else [] := rfl
  have hnil : endsS s = false → splitS s = [] := fun h => by simp [splitS, h]
  refine ⟨by omega, ?_⟩
  rw [hO] at hS
  rw [hO, hS]
  generalize endsS s = en at *
  generalize splitS s = w at *
  refine VL_inv (X := Nat) (fun k => ⟨[(4, enc_strs w), (5, .bool en), (6, .ref 256 0 (w.take k).length (w.take k).length), (7, .int .i64 k)], [(256, .cells 3 false (.agg [.str [], .str [], .bool false]) (((w.take k).map dirS).map enc_dir))]⟩) (fun k => k ≤ w.length ∧ (w.take k).all dirOk = true) (fun k => w.length - k) 0 ?_ ?_ ?_
  · simp only [List.take_zero, List.map_nil, go_sem, go_sem, seval]
    try rfl
  · exact ⟨Nat.zero_le _, by simp⟩
  rintro k ⟨hk, hn⟩
  simp (config := {maxSteps := 2000000}) only [T_specParseR, Go.Proofs.Tryz.Lists.tb_specSplitR, Go.Proofs.Tryz.CacR.tb_specOneR, go_sem, seval]
  (try simp (config := {maxSteps := 2000000}) only [gimp, impB, isT, go_sem, seval])
  have hlk : (w.take k).length ≤ k := by rw [List.length_take]; omega
  have ht := fun h : k < w.length => take_succ_getD (s := w) [] h
  have hmem := fun h : k < w.length => List.mem_of_getElem? (getD_of_lt (s := w) (d := []) h)
  refine ⟨fun hlt => ⟨by omega, hsm _ (hmem (by omega)), fun hno => ?_, fun hy => ⟨by omega, by omega, k + 1, ⟨⟨?_, by omega⟩, ?_⟩, ⟨by omega, ?_⟩, by omega⟩⟩, fun hge => ?_⟩
  · have : w.all dirOk = false := List.all_eq_false.2 ⟨_, hmem (by omega), by rw [hno]; simp⟩
    rw [this]; simp
  · rw [ht (by omega)]; simp
  · have h0 : ¬ dirN (w.getD k []) = 0 := fun h => by
      unfold dirOk at hy
      simp only [h, decide_true, Bool.not_true, Bool.false_and, Bool.and_false, Bool.false_eq_true] at hy
    have hr : refD (w.getD k []) = dirS (w.getD k []) := by rw [refD, if_neg h0]
    rw [ht (by omega), hr]; simp [enc_dir]
  · rw [ht (by omega), List.all_append, hn]; simpa using hy
  · rw [List.take_of_length_le (show w.length ≤ k by omega)] at hn ⊢
    rw [hn, List.take_of_length_le (by simp)]
    cases en with
    | true => simp
    | false => rw [hnil rfl]; simp
def tb_specParseR : List Blk → List AV → Option (List Blk × AV × Prop)
  | [], [.str s] => some ([], .tuple [enc_dirs (dirsS s), .bool (dirsOk s)], (s.length ≤ 1000000))
  | _, _ => none
theorem tb_specParseR_ok : ∀ E args E' res p, tb_specParseR E args = some (E', res, p) → p → SpecE Tryz.prog 167 E args E' res := by
  intro E args E' res p h hp
  unfold tb_specParseR at h
  split at h
  · simp only [Option.some.injEq, Prod.mk.injEq] at h
    obtain ⟨rfl, rfl, rfl⟩ := h
    exact (specParseR _ hp)
  · cases h
def T_specControlR : Tbl := fun g E args => (addT (addT nilT 20 Go.Proofs.Tryz.HdrR.tb_specCombined) 167 Go.Proofs.Tryz.CacR.tb_specParseR) g E args
theorem T_specControlR_ok : TblOK Tryz.prog T_specControlR := (addT_ok (addT_ok nilT_ok (by decide +kernel) Go.Proofs.Tryz.HdrR.tb_specCombined_ok) (by decide +kernel) Go.Proofs.Tryz.CacR.tb_specParseR_ok)
set_option maxRecDepth 100000 in
set_option maxHeartbeats 4000000 in
theorem specControlR (l : List Fld) (hl : l.length ≤ 1000) (hf : ∀ f ∈ l, f.1.length ≤ 1000000) (hq : ∀ f ∈ l, f.2.length ≤ 900) : SpecE Tryz.prog 131 [] [enc_flds l] [] (enc_dirs (ctlS l)) := by
  refine specF0 (C := T_specControlR) (wr := false) (D := fun _ => []) (U := fun _ => none) (res := [enc_dirs (ctlS l)]) Tryz.Ty.mixed T_specControlR_ok Tryz.func131 (nA := 1) (by decide +kernel) rfl (fun _ => rfl) ?_
  simp only [Tryz.f131, bodyOf, rlOf]
  rw [W_V]
  simp (config := {maxSteps := 2000000}) only [T_specControlR, Go.Proofs.Tryz.HdrR.tb_specCombined, Go.Proofs.Tryz.CacR.tb_specParseR, go_sem, seval]
  (try simp (config := {maxSteps := 2000000}) only [gimp, impB, isT, go_sem, seval])
  have h1 := comb_len3 nmCC hl hq
  exact ⟨⟨hl, hf, fun f h => by have := hq f h; omega⟩, by have : (combS l [67, 97, 99, 104, 101, 45, 67, 111, 110, 116, 114, 111, 108]).length ≤ 902000 := h1; omega, rfl⟩
def tb_specControlR : List Blk → List AV → Option (List Blk × AV × Prop)
  | [], [a0] => some ([], enc_dirs (ctlS (dec_flds a0)), ((dec_flds a0).length ≤ 1000) ∧ (∀ f ∈ (dec_flds a0), f.1.length ≤ 1000000) ∧ (∀ f ∈ (dec_flds a0), f.2.length ≤ 900) ∧ argOK a0 (enc_flds (dec_flds a0)))
  | _, _ => none
theorem tb_specControlR_ok : ∀ E args E' res p, tb_specControlR E args = some (E', res, p) → p → SpecE Tryz.prog 131 E args E' res := by
  intro E args E' res p h hp
  unfold tb_specControlR at h
  split at h
  · simp only [Option.some.injEq, Prod.mk.injEq] at h
    obtain ⟨rfl, rfl, rfl⟩ := h
    exact SpecE.args (specControlR _ hp.1 hp.2.1 hp.2.2.1) (.cons hp.2.2.2 .nil)
  · cases h
def T_specFindR : Tbl := fun g E args => (addT (addT nilT 131 Go.Proofs.Tryz.CacR.tb_specControlR) 23 Go.Proofs.Tryz.Oct.tb_specLowerR) g E args
theorem T_specFindR_ok : TblOK Tryz.prog T_specFindR := (addT_ok (addT_ok nilT_ok (by decide +kernel) Go.Proofs.Tryz.CacR.tb_specControlR_ok) (by decide +kernel) Go.Proofs.Tryz.Oct.tb_specLowerR_ok)
set_option maxRecDepth 100000 in
set_option maxHeartbeats 4000000 in
theorem specFindR (l : List Fld) (n : List UInt8) (hl : l.length ≤ 1000) (hf : ∀ f ∈ l, f.1.length ≤ 1000000) (hq : ∀ f ∈ l, f.2.length ≤ 900) (hn : n.length ≤ 1000000) : SpecE Tryz.prog 92 [] [enc_flds l, .str n] [] (.tuple [.agg [.str ((ctlS l).getD ((ctlS l).findIdx (dirIs n)) dir0).1, .str ((ctlS l).getD ((ctlS l).findIdx (dirIs n)) dir0).2.1, .bool ((ctlS l).getD ((ctlS l).findIdx (dirIs n)) dir0).2.2], .bool (ctlHas l n)]) := by
  refine specF0 (C := T_specFindR) (wr := false) (D := fun _ => []) (U := fun _ => none) (res := [.agg [.str ((ctlS l).getD ((ctlS l).findIdx (dirIs n)) dir0).1, .str ((ctlS l).getD ((ctlS l).findIdx (dirIs n)) dir0).2.1, .bool ((ctlS l).getD ((ctlS l).findIdx (dirIs n)) dir0).2.2], .bool (ctlHas l n)]) Tryz.Ty.mixed T_specFindR_ok Tryz.func92 (nA := 2) (by decide +kernel) rfl (fun _ => rfl) ?_
  simp only [Tryz.f92, bodyOf, rlOf]
  rw [W_V]
  simp (config := {maxSteps := 2000000}) only [T_specFindR, Go.Proofs.Tryz.CacR.tb_specControlR, Go.Proofs.Tryz.Oct.tb_specLowerR, go_sem, seval]
  (try simp (config := {maxSteps := 2000000}) only [gimp, impB, isT, go_sem, seval])
  have hcnt : (ctlS l).length ≤ 902001 := by
    have h1 := comb_len3 nmCC hl hq
    have h2 := dirsS_count (combS l nmCC)
    unfold ctlS; omega
  have hH : ctlHas l n = (ctlS l).any (dirIs n) := rfl
  refine ⟨⟨hl, hf, hq⟩, ?_⟩
  rw [hH]
  generalize ctlS l = w at *
  refine VL_inv (X := Nat) (fun k => ⟨[(1, .str n), (4, .ptr 80 0 0 1), (6, enc_dirs w), (7, .int .i64 k)], [(80, .cells 3 false (.agg [.str [], .str [], .bool false]) [.agg [.str [], .str [], .bool false]])]⟩) (fun k => k ≤ w.length ∧ (w.take k).any (dirIs n) = false) (fun k => w.length - k) 0 ?_ ?_ ?_
  · simp only [go_sem, go_sem, seval]
    try rfl
  · exact ⟨Nat.zero_le _, by simp⟩
  rintro k ⟨hk, hn2⟩
  simp (config := {maxSteps := 2000000}) only [T_specFindR, Go.Proofs.Tryz.CacR.tb_specControlR, Go.Proofs.Tryz.Oct.tb_specLowerR, go_sem, seval]
  (try simp (config := {maxSteps := 2000000}) only [gimp, impB, isT, go_sem, seval])
  refine ⟨fun hlt => ⟨by omega, hn, fun he => ?_, fun hne => ⟨by omega, k + 1, by omega, ⟨by omega, ?_⟩, by omega⟩⟩, fun hge => ?_⟩
  · have hit := idxP_hit (p := dirIs n) (l := w) dir0 (x := k) (by omega) hn2 (by rw [dirIs, decide_eq_true_eq]; exact he)
    have hany : w.any (dirIs n) = true := by rw [← idxP_ge, hit]; omega
    have hx : w.findIdx (dirIs n) = k := by
      unfold idxP at hit
      rw [if_pos hany] at hit
      omega
    rw [hx, hany]; exact ⟨by omega, rfl, rfl⟩
  · rw [any_take_succ dir0 (by omega) hn2, dirIs, decide_eq_false_iff_not]; exact hne
  · rw [List.take_of_length_le (show w.length ≤ k by omega)] at hn2
    have hx : w.findIdx (dirIs n) = w.length := List.findIdx_eq_length.2 (fun d hd => by
      have := List.any_eq_false.1 hn2 d hd
      simpa using this)
    rw [hn2, hx]
    have : w.getD w.length dir0 = dir0 := by simp [List.getD_eq_getElem?_getD]
    rw [this]; exact ⟨rfl, rfl⟩
def tb_specFindR : List Blk → List AV → Option (List Blk × AV × Prop)
  | [], [a0, .str n] => some ([], .tuple [.agg [.str ((ctlS (dec_flds a0)).getD ((ctlS (dec_flds a0)).findIdx (dirIs n)) dir0).1, .str ((ctlS (dec_flds a0)).getD ((ctlS (dec_flds a0)).findIdx (dirIs n)) dir0).2.1, .bool ((ctlS (dec_flds a0)).getD ((ctlS (dec_flds a0)).findIdx (dirIs n)) dir0).2.2], .bool (ctlHas (dec_flds a0) n)], ((dec_flds a0).length ≤ 1000) ∧ (∀ f ∈ (dec_flds a0), f.1.length ≤ 1000000) ∧ (∀ f ∈ (dec_flds a0), f.2.length ≤ 900) ∧ (n.length ≤ 1000000) ∧ argOK a0 (enc_flds (dec_flds a0)))
  | _, _ => none
theorem tb_specFindR_ok : ∀ E args E' res p, tb_specFindR E args = some (E', res, p) → p → SpecE Tryz.prog 92 E args E' res := by
  intro E args E' res p h hp
  unfold tb_specFindR at h
  split at h
  · simp only [Option.some.injEq, Prod.mk.injEq] at h
    obtain ⟨rfl, rfl, rfl⟩ := h
    exact SpecE.args (specFindR _ _ hp.1 hp.2.1 hp.2.2.1 hp.2.2.2.1) (.cons hp.2.2.2.2 (.cons (argOK.refl _) .nil))
  · cases h
def T_specAgeR : Tbl := fun g E args => (addT (addT nilT 92 Go.Proofs.Tryz.CacR.tb_specFindR) 109 Go.Proofs.Tryz.Dig.tb_specNumberR) g E args
theorem T_specAgeR_ok : TblOK Tryz.prog T_specAgeR := (addT_ok (addT_ok nilT_ok (by decide +kernel) Go.Proofs.Tryz.CacR.tb_specFindR_ok) (by decide +kernel) Go.Proofs.Tryz.Dig.tb_specNumberR_ok)
set_option maxRecDepth 100000 in
set_option maxHeartbeats 4000000 in
theorem specAgeR (l : List Fld) (hl : l.length ≤ 1000) (hf : ∀ f ∈ l, f.1.length ≤ 1000000) (hq : ∀ f ∈ l, f.2.length ≤ 900) : SpecE Tryz.prog 99 [] [enc_flds l] [] (.tuple [.int .i64 (ageN l), .bool (ageOk l)]) := by
  refine specF0 (C := T_specAgeR) (wr := false) (D := fun _ => []) (U := fun _ => none) (res := [.int .i64 (ageN l), .bool (ageOk l)]) Tryz.Ty.mixed T_specAgeR_ok Tryz.func99 (nA := 1) (by decide +kernel) rfl (fun _ => rfl) ?_
  simp only [Tryz.f99, bodyOf, rlOf]
  rw [W_V]
  simp (config := {maxSteps := 2000000}) only [T_specAgeR, Go.Proofs.Tryz.CacR.tb_specFindR, Go.Proofs.Tryz.Dig.tb_specNumberR, go_sem, seval]
  (try simp (config := {maxSteps := 2000000}) only [gimp, impB, isT, go_sem, seval])
  have hW : [109, 97, 120, 45, 97, 103, 101] = wdAge := rfl
  rw [hW]
  have hV : ((ctlS l).getD ((ctlS l).findIdx (dirIs wdAge)) dir0).2.1 = ageV l := rfl
  rw [hV]
  have hlen : (ageV l).length ≤ 1000000 := by
    unfold ageV
    rcases Nat.lt_or_ge ((ctlS l).findIdx (dirIs wdAge)) (ctlS l).length with h | h
    · have hm := List.mem_of_getElem? (getD_of_lt (s := ctlS l) (d := dir0) h)
      obtain ⟨e, he, _, hd⟩ := dirsS_mem (s := combS l nmCC) hm
      rw [hd]
      have h1 := (dirS_len (s := e)).2
      have h2 := (splitS_mem he).1
      have h3 := comb_len3 nmCC hl hq
      omega
    · have : (ctlS l).getD ((ctlS l).findIdx (dirIs wdAge)) dir0 = dir0 := by simp [List.getD_eq_getElem?_getD, List.getElem?_eq_none h]
      rw [this]; decide
  refine ⟨⟨hl, hf, hq⟩, hlen, fun h => by simp [ageN, ageOk, h], fun h => ⟨fun h5 => ?_, fun h5 => ?_⟩⟩
  · rw [ageN, ageOk, h, if_pos rfl, if_pos h5, h5]; exact ⟨rfl, rfl⟩
  · rw [ageN, ageOk, h, if_pos rfl, if_neg h5, decide_eq_false h5]; exact ⟨rfl, rfl⟩
def tb_specAgeR : List Blk → List AV → Option (List Blk × AV × Prop)
  | [], [a0] => some ([], .tuple [.int .i64 (ageN (dec_flds a0)), .bool (ageOk (dec_flds a0))], ((dec_flds a0).length ≤ 1000) ∧ (∀ f ∈ (dec_flds a0), f.1.length ≤ 1000000) ∧ (∀ f ∈ (dec_flds a0), f.2.length ≤ 900) ∧ argOK a0 (enc_flds (dec_flds a0)))
  | _, _ => none
theorem tb_specAgeR_ok : ∀ E args E' res p, tb_specAgeR E args = some (E', res, p) → p → SpecE Tryz.prog 99 E args E' res := by
  intro E args E' res p h hp
  unfold tb_specAgeR at h
  split at h
  · simp only [Option.some.injEq, Prod.mk.injEq] at h
    obtain ⟨rfl, rfl, rfl⟩ := h
    exact SpecE.args (specAgeR _ hp.1 hp.2.1 hp.2.2.1) (.cons hp.2.2.2 .nil)
  · cases h
def T_specPragmaR : Tbl := fun g E args => (addT (addT nilT 20 Go.Proofs.Tryz.HdrR.tb_specCombined) 91 Go.Proofs.Tryz.Lists.tb_specHasR) g E args
theorem T_specPragmaR_ok : TblOK Tryz.prog T_specPragmaR := (addT_ok (addT_ok nilT_ok (by decide +kernel) Go.Proofs.Tryz.HdrR.tb_specCombined_ok) (by decide +kernel) Go.Proofs.Tryz.Lists.tb_specHasR_ok)
set_option maxRecDepth 100000 in
set_option maxHeartbeats 4000000 in
theorem specPragmaR (l : List Fld) (hl : l.length ≤ 1000) (hf : ∀ f ∈ l, f.1.length ≤ 1000000) (hq : ∀ f ∈ l, f.2.length ≤ 900) : SpecE Tryz.prog 55 [] [enc_flds l] [] (.bool (pragS l)) := by
  refine specF0 (C := T_specPragmaR) (wr := false) (D := fun _ => []) (U := fun _ => none) (res := [.bool (pragS l)]) Tryz.Ty.mixed T_specPragmaR_ok Tryz.func55 (nA := 1) (by decide +kernel) rfl (fun _ => rfl) ?_
  simp only [Tryz.f55, bodyOf, rlOf]
  rw [W_V]
  simp (config := {maxSteps := 2000000}) only [T_specPragmaR, Go.Proofs.Tryz.HdrR.tb_specCombined, Go.Proofs.Tryz.Lists.tb_specHasR, go_sem, seval]
  (try simp (config := {maxSteps := 2000000}) only [gimp, impB, isT, go_sem, seval])
  have h1 := comb_len3 [80, 114, 97, 103, 109, 97] hl hq
  exact ⟨⟨hl, hf, fun f h => by have := hq f h; omega⟩, by omega, rfl⟩
def tb_specPragmaR : List Blk → List AV → Option (List Blk × AV × Prop)
  | [], [a0] => some ([], .bool (pragS (dec_flds a0)), ((dec_flds a0).length ≤ 1000) ∧ (∀ f ∈ (dec_flds a0), f.1.length ≤ 1000000) ∧ (∀ f ∈ (dec_flds a0), f.2.length ≤ 900) ∧ argOK a0 (enc_flds (dec_flds a0)))
  | _, _ => none
theorem tb_specPragmaR_ok : ∀ E args E' res p, tb_specPragmaR E args = some (E', res, p) → p → SpecE Tryz.prog 55 E args E' res := by
  intro E args E' res p h hp
  unfold tb_specPragmaR at h
  split at h
  · simp only [Option.some.injEq, Prod.mk.injEq] at h
    obtain ⟨rfl, rfl, rfl⟩ := h
    exact SpecE.args (specPragmaR _ hp.1 hp.2.1 hp.2.2.1) (.cons hp.2.2.2 .nil)
  · cases h
end Go.Proofs.Tryz.CacR
end
section
set_option linter.unusedVariables false
set_option linter.unusedSimpArgs false
namespace Go.Proofs.Tryz.Dig
open Go Go.Abs Go.Proofs Go.Mdl
def T_specPad : Tbl := fun g E args => (addT (addT nilT 98 Go.Proofs.Tryz.Dig.tb_specText) 174 Go.Proofs.Tryz.Lib.tb_specRepeat) g E args
theorem T_specPad_ok : TblOK Tryz.prog T_specPad := (addT_ok (addT_ok nilT_ok (by decide +kernel) Go.Proofs.Tryz.Dig.tb_specText_ok) (by decide +kernel) Go.Proofs.Tryz.Lib.tb_specRepeat_ok)
set_option maxRecDepth 100000 in
set_option maxHeartbeats 4000000 in
theorem specPad (n wide : Int) (hn : inR .i64 n) (hw : -1000000 ≤ wide ∧ wide ≤ 9223372036854775807) : SpecE Tryz.prog 140 [] [.int .i64 n, .int .i64 wide] [] (.str (padS n wide)) := by
  refine specF0 (C := T_specPad) (wr := false) (D := fun _ => []) (U := fun _ => none) (res := [.str (padS n wide)]) Tryz.Ty.mixed T_specPad_ok Tryz.func140 (nA := 2) (by decide +kernel) rfl (fun _ => rfl) ?_
  simp only [Tryz.f140, bodyOf, rlOf]
  rw [W_V]
  simp (config := {maxSteps := 2000000}) only [T_specPad, Go.Proofs.Tryz.Dig.tb_specText, Go.Proofs.Tryz.Lib.tb_specRepeat, go_sem, seval]
  (try simp (config := {maxSteps := 2000000}) only [gimp, impB, isT, go_sem, seval])
  have h1 := textI_len n
  simp only [inR] at hn
  refine ⟨hn, fun h => by simp [padS, h], fun h => ?_⟩
  simp only [repeatL_one]
  refine ⟨by omega, by omega, by simp only [List.length_replicate]; omega, ?_⟩
  simp [padS, Int.not_lt.2 h]
def tb_specPad : List Blk → List AV → Option (List Blk × AV × Prop)
  | [], [.int .i64 n, .int .i64 wide] => some ([], .str (padS n wide), (inR .i64 n) ∧ (-1000000 ≤ wide ∧ wide ≤ 9223372036854775807))
  | _, _ => none
theorem tb_specPad_ok : ∀ E args E' res p, tb_specPad E args = some (E', res, p) → p → SpecE Tryz.prog 140 E args E' res := by
  intro E args E' res p h hp
  unfold tb_specPad at h
  split at h
  · simp only [Option.some.injEq, Prod.mk.injEq] at h
    obtain ⟨rfl, rfl, rfl⟩ := h
    exact (specPad _ _ hp.1 hp.2)
  · cases h
end Go.Proofs.Tryz.Dig
end
section
set_option linter.unusedVariables false
set_option linter.unusedSimpArgs false
namespace Go.Proofs.Tryz.HdtR
open Go Go.Abs Go.Proofs Go.Mdl Go.Proofs.Tryz.Civil
def T_specPadR : Tbl := fun g E args => (addT nilT 102 Go.Proofs.Tryz.Dig.tb_specTextR) g E args
theorem T_specPadR_ok : TblOK Tryz.prog T_specPadR := (addT_ok nilT_ok (by decide +kernel) Go.Proofs.Tryz.Dig.tb_specTextR_ok)
set_option maxRecDepth 100000 in
set_option maxHeartbeats 4000000 in
theorem specPadR (n wide : Int) (hn : inR .i64 n) (hw : -1000000 ≤ wide ∧ wide ≤ 1000000) : SpecE Tryz.prog 181 [] [.int .i64 n, .int .i64 wide] [] (.str (padS n wide)) := by
  refine specF0 (C := T_specPadR) (wr := false) (D := fun _ => []) (U := fun _ => none) (res := [.str (padS n wide)]) Tryz.Ty.mixed T_specPadR_ok Tryz.func181 (nA := 2) (by decide +kernel) rfl (fun _ => rfl) ?_
  simp only [Tryz.f181, bodyOf, rlOf]
  rw [W_V]
  simp (config := {maxSteps := 2000000}) only [T_specPadR, Go.Proofs.Tryz.Dig.tb_specTextR, go_sem, seval]
  (try simp (config := {maxSteps := 2000000}) only [gimp, impB, isT, go_sem, seval])
  have h1 := textI_len n
  have h2 := textI_pos n
  refine ⟨hn, ?_⟩
  refine VL_inv (X := Nat) (fun k => ⟨[(0, .int .i64 n), (1, .int .i64 wide), (5, .str (List.replicate k 48 ++ textI n))], []⟩) (fun k => k ≤ (if n < 0 then 0 else (max 0 (min wide 20 - ((textI n).length : Int))).toNat)) (fun k => 100 - k) 0 ?_ ?_ ?_
  · simp only [T_specPadR, Go.Proofs.Tryz.Dig.tb_specTextR, go_sem, seval, List.replicate_zero, List.nil_append]
    try rfl
  · omega
  rintro k hk
  simp (config := {maxSteps := 2000000}) only [T_specPadR, Go.Proofs.Tryz.Dig.tb_specTextR, go_sem, seval]
  (try simp (config := {maxSteps := 2000000}) only [gimp, impB, isT, go_sem, seval])
  have hge : 0 ≤ n → textI n = textI n ∧ padS n wide = List.replicate (max 0 (min wide 20 - ((textI n).length : Int))).toNat 48 ++ textI n := fun h => ⟨rfl, by rw [padS, if_neg (by omega)]⟩
  have hlen : (List.replicate k 48 ++ textI n).length = k + (textI n).length := by simp
  rw [hlen]
  refine ⟨fun h0 h3 h4 => ⟨by omega, k + 1, rfl, ?_, ?_⟩, fun h => ?_⟩
  · rw [if_neg (by omega)] at hk ⊢; omega
  · rw [if_neg (by omega)] at hk; omega
  · rcases Int.lt_or_le n 0 with hn0 | hn0
    · rw [if_pos hn0] at hk
      obtain rfl : k = 0 := by omega
      rw [padS, if_pos hn0]; rfl
    · rw [if_neg (by omega)] at hk
      rw [(hge hn0).2]
      congr 2
      simp only [Bool.and_eq_false_iff, decide_eq_false_iff_not] at h
      omega
def tb_specPadR : List Blk → List AV → Option (List Blk × AV × Prop)
  | [], [.int .i64 n, .int .i64 wide] => some ([], .str (padS n wide), (inR .i64 n) ∧ (-1000000 ≤ wide ∧ wide ≤ 1000000))
  | _, _ => none
theorem tb_specPadR_ok : ∀ E args E' res p, tb_specPadR E args = some (E', res, p) → p → SpecE Tryz.prog 181 E args E' res := by
  intro E args E' res p h hp
  unfold tb_specPadR at h
  split at h
  · simp only [Option.some.injEq, Prod.mk.injEq] at h
    obtain ⟨rfl, rfl, rfl⟩ := h
    exact (specPadR _ _ hp.1 hp.2)
  · cases h
def T_specDaysR : Tbl := fun g E args => nilT g E args
theorem T_specDaysR_ok : TblOK Tryz.prog T_specDaysR := nilT_ok
set_option maxRecDepth 100000 in
set_option maxHeartbeats 4000000 in
theorem specDaysR : SpecE Tryz.prog 179 [] [] [.cells 1 false (.str []) (hdDays.map .str)] (.ref 0 0 7 7) := by
  refine specFE (C := T_specDaysR) (wr := false) (D := fun _ => []) (U := fun _ => none) (E := []) (E' := [.cells 1 false (.str []) (hdDays.map .str)]) (res := [.ref 0 0 7 7]) [32] Tryz.Ty.mixed T_specDaysR_ok Tryz.func179 (args := []) (nE := 0) (nA := 0) (by decide +kernel) rfl rfl ?_
  simp only [Tryz.f179, bodyOf, rlOf]
  rw [W_V]
  simp (config := {maxSteps := 2000000}) only [T_specDaysR, go_sem, seval, hdDays]
  (try simp (config := {maxSteps := 2000000}) only [gimp, impB, isT, go_sem, seval])
def tb_specDaysR : List Blk → List AV → Option (List Blk × AV × Prop)
  | [], [] => some ([.cells 1 false (.str []) (hdDays.map .str)], .ref 0 0 7 7, True)
  | _, _ => none
theorem tb_specDaysR_ok : ∀ E args E' res p, tb_specDaysR E args = some (E', res, p) → p → SpecE Tryz.prog 179 E args E' res := by
  intro E args E' res p h hp
  unfold tb_specDaysR at h
  split at h
  · simp only [Option.some.injEq, Prod.mk.injEq] at h
    obtain ⟨rfl, rfl, rfl⟩ := h
    exact specDaysR
  · cases h
def T_specMonthsR : Tbl := fun g E args => nilT g E args
theorem T_specMonthsR_ok : TblOK Tryz.prog T_specMonthsR := nilT_ok
set_option maxRecDepth 100000 in
set_option maxHeartbeats 4000000 in
theorem specMonthsR : SpecE Tryz.prog 180 [] [] [.cells 1 false (.str []) (hdMonths.map .str)] (.ref 0 0 12 12) := by
  refine specFE (C := T_specMonthsR) (wr := false) (D := fun _ => []) (U := fun _ => none) (E := []) (E' := [.cells 1 false (.str []) (hdMonths.map .str)]) (res := [.ref 0 0 12 12]) [32] Tryz.Ty.mixed T_specMonthsR_ok Tryz.func180 (args := []) (nE := 0) (nA := 0) (by decide +kernel) rfl rfl ?_
  simp only [Tryz.f180, bodyOf, rlOf]
  rw [W_V]
  simp (config := {maxSteps := 2000000}) only [T_specMonthsR, go_sem, seval, hdMonths]
  (try simp (config := {maxSteps := 2000000}) only [gimp, impB, isT, go_sem, seval])
def tb_specMonthsR : List Blk → List AV → Option (List Blk × AV × Prop)
  | [], [] => some ([.cells 1 false (.str []) (hdMonths.map .str)], .ref 0 0 12 12, True)
  | _, _ => none
theorem tb_specMonthsR_ok : ∀ E args E' res p, tb_specMonthsR E args = some (E', res, p) → p → SpecE Tryz.prog 180 E args E' res := by
  intro E args E' res p h hp
  unfold tb_specMonthsR at h
  split at h
  · simp only [Option.some.injEq, Prod.mk.injEq] at h
    obtain ⟨rfl, rfl, rfl⟩ := h
    exact specMonthsR
  · cases h
def T_specNumberR : Tbl := fun g E args => (addT nilT 109 Go.Proofs.Tryz.Dig.tb_specNumberR) g E args
theorem T_specNumberR_ok : TblOK Tryz.prog T_specNumberR := (addT_ok nilT_ok (by decide +kernel) Go.Proofs.Tryz.Dig.tb_specNumberR_ok)
set_option maxRecDepth 100000 in
set_option maxHeartbeats 4000000 in
theorem specNumberR (s : List UInt8) (hs : s.length ≤ 1000000) : SpecE Tryz.prog 199 [] [.str s] [] (.int .i64 (numN s)) := by
  refine specF0 (C := T_specNumberR) (wr := false) (D := fun _ => []) (U := fun _ => none) (res := [.int .i64 (numN s)]) Tryz.Ty.mixed T_specNumberR_ok Tryz.func199 (nA := 1) (by decide +kernel) rfl (fun _ => rfl) ?_
  simp only [Tryz.f199, bodyOf, rlOf]
  rw [W_V]
  simp (config := {maxSteps := 2000000}) only [T_specNumberR, Go.Proofs.Tryz.Dig.tb_specNumberR, go_sem, seval]
  (try simp (config := {maxSteps := 2000000}) only [gimp, impB, isT, go_sem, seval])
  exact ⟨hs, fun h => by rw [numN, if_neg h], fun h => by rw [numN, if_pos h]⟩
def tb_specNumberR : List Blk → List AV → Option (List Blk × AV × Prop)
  | [], [.str s] => some ([], .int .i64 (numN s), (s.length ≤ 1000000))
  | _, _ => none
theorem tb_specNumberR_ok : ∀ E args E' res p, tb_specNumberR E args = some (E', res, p) → p → SpecE Tryz.prog 199 E args E' res := by
  intro E args E' res p h hp
  unfold tb_specNumberR at h
  split at h
  · simp only [Option.some.injEq, Prod.mk.injEq] at h
    obtain ⟨rfl, rfl, rfl⟩ := h
    exact (specNumberR _ hp)
  · cases h
def T_specIndexR : Tbl := fun g E args => nilT g E args
theorem T_specIndexR_ok : TblOK Tryz.prog T_specIndexR := nilT_ok
set_option maxRecDepth 100000 in
set_option maxHeartbeats 4000000 in
theorem specIndexR (l : List (List UInt8)) (s : List UInt8) (hl : l.length ≤ 1000000) : SpecE Tryz.prog 198 [] [enc_strs l, .str s] [] (.int .i64 (ixN l s)) := by
  refine specF0 (C := T_specIndexR) (wr := false) (D := fun _ => []) (U := fun _ => none) (res := [.int .i64 (ixN l s)]) Tryz.Ty.mixed T_specIndexR_ok Tryz.func198 (nA := 2) (by decide +kernel) rfl (fun _ => rfl) ?_
  simp only [Tryz.f198, bodyOf, rlOf]
  rw [W_V]
  simp (config := {maxSteps := 2000000}) only [T_specIndexR, go_sem, seval]
  (try simp (config := {maxSteps := 2000000}) only [gimp, impB, isT, go_sem, seval])
  refine VL_inv (X := Nat) (fun k => ⟨[(0, enc_strs l), (1, .str s), (5, .int .i64 k)], []⟩) (fun k => k ≤ l.length ∧ (l.take k).any (fun w => decide (w = s)) = false) (fun k => l.length - k) 0 ?_ ?_ ?_
  · simp only [T_specIndexR, go_sem, seval]
    try rfl
  · exact ⟨Nat.zero_le _, by simp⟩
  rintro k ⟨hk, hn⟩
  simp (config := {maxSteps := 2000000}) only [T_specIndexR, go_sem, seval]
  (try simp (config := {maxSteps := 2000000}) only [gimp, impB, isT, go_sem, seval])
  refine ⟨fun hlt => ⟨by omega, fun he => ?_, fun hne => ⟨by omega, k + 1, by omega, ⟨by omega, ?_⟩, by omega⟩⟩, fun hge => ?_⟩
  · exact (idxP_hit (p := fun w => decide (w = s)) [] (by omega) hn (by simpa using he)).symm
  · rw [take_succ_getD [] (by omega), List.any_append, hn]
    simpa using hne
  · have : k = l.length := by omega
    subst this
    rw [List.take_length] at hn
    exact (idxP_none hn).symm
def tb_specIndexR : List Blk → List AV → Option (List Blk × AV × Prop)
  | [], [a0, .str s] => some ([], .int .i64 (ixN (dec_strs a0) s), ((dec_strs a0).length ≤ 1000000) ∧ argOK a0 (enc_strs (dec_strs a0)))
  | _, _ => none
theorem tb_specIndexR_ok : ∀ E args E' res p, tb_specIndexR E args = some (E', res, p) → p → SpecE Tryz.prog 198 E args E' res := by
  intro E args E' res p h hp
  unfold tb_specIndexR at h
  split at h
  · simp only [Option.some.injEq, Prod.mk.injEq] at h
    obtain ⟨rfl, rfl, rfl⟩ := h
    exact SpecE.args (specIndexR _ _ hp.1) (.cons hp.2 (.cons (argOK.refl _) .nil))
  · cases h
def T_specTimeR : Tbl := fun g E args => (addT nilT 199 Go.Proofs.Tryz.HdtR.tb_specNumberR) g E args
theorem T_specTimeR_ok : TblOK Tryz.prog T_specTimeR := (addT_ok nilT_ok (by decide +kernel) Go.Proofs.Tryz.HdtR.tb_specNumberR_ok)
set_option maxRecDepth 100000 in
set_option maxHeartbeats 4000000 in
theorem specTimeR (s : List UInt8) (y mo d h mi se : Int) (hs : s.length ≤ 1000000) : SpecE Tryz.prog 200 [] [.str s, .agg [.int .i64 y, .int .i64 mo, .int .i64 d, .int .i64 h, .int .i64 mi, .int .i64 se]] [] (.tuple [.agg [.int .i64 (tiD s ⟨y, mo, d, h, mi, se⟩).y, .int .i64 (tiD s ⟨y, mo, d, h, mi, se⟩).mo, .int .i64 (tiD s ⟨y, mo, d, h, mi, se⟩).d, .int .i64 (tiD s ⟨y, mo, d, h, mi, se⟩).h, .int .i64 (tiD s ⟨y, mo, d, h, mi, se⟩).mi, .int .i64 (tiD s ⟨y, mo, d, h, mi, se⟩).se], .bool (tiB s)]) := by
  refine specF0 (C := T_specTimeR) (wr := false) (D := fun i => if i = 6 then [14, 150064, 120064] else []) (U := fun _ => none) (res := [.agg [.int .i64 (tiD s ⟨y, mo, d, h, mi, se⟩).y, .int .i64 (tiD s ⟨y, mo, d, h, mi, se⟩).mo, .int .i64 (tiD s ⟨y, mo, d, h, mi, se⟩).d, .int .i64 (tiD s ⟨y, mo, d, h, mi, se⟩).h, .int .i64 (tiD s ⟨y, mo, d, h, mi, se⟩).mi, .int .i64 (tiD s ⟨y, mo, d, h, mi, se⟩).se], .bool (tiB s)]) Tryz.Ty.mixed T_specTimeR_ok Tryz.func200 (nA := 2) (by decide +kernel) rfl (fun _ => rfl) ?_
  simp only [Tryz.f200, bodyOf, rlOf]
  rw [W_V]
  simp (config := {maxSteps := 2000000}) only [T_specTimeR, Go.Proofs.Tryz.HdtR.tb_specNumberR, go_sem, seval]
  (try simp (config := {maxSteps := 2000000}) only [gimp, impB, isT, go_sem, seval])
  refine ⟨fun h => by omega, fun h _ => by omega, fun h => ?_, fun h1 h2 h3 => ?_⟩
  · have hf : tiOk s = false := by
      unfold tiOk
      rcases h with (h | h) | h
      · have : ¬ s.length = 8 := by omega
        simp [this]
      · simp only [h, decide_false, Bool.and_false, Bool.false_and]
      · simp only [h, decide_false, Bool.and_false, Bool.false_and]
    simp [tiD, tiB, hf]
  · have hl : s.length = 8 := by omega
    have hf : tiOk s = true := by
      unfold tiOk
      simp only [hl, h2, h3, decide_true, Bool.and_true]
    refine ⟨by omega, ?_, by omega, ?_, by omega, ?_, ?_, ?_⟩
    · rw [List.length_take]; omega
    · rw [List.length_drop, List.length_take]; omega
    · rw [List.length_drop]; omega
    · simp only [tiD, hf, if_true]
    · simp only [tiB, hf, Bool.true_and]
def tb_specTimeR : List Blk → List AV → Option (List Blk × AV × Prop)
  | [], [.str s, .agg [.int .i64 y, .int .i64 mo, .int .i64 d, .int .i64 h, .int .i64 mi, .int .i64 se]] => some ([], .tuple [.agg [.int .i64 (tiD s ⟨y, mo, d, h, mi, se⟩).y, .int .i64 (tiD s ⟨y, mo, d, h, mi, se⟩).mo, .int .i64 (tiD s ⟨y, mo, d, h, mi, se⟩).d, .int .i64 (tiD s ⟨y, mo, d, h, mi, se⟩).h, .int .i64 (tiD s ⟨y, mo, d, h, mi, se⟩).mi, .int .i64 (tiD s ⟨y, mo, d, h, mi, se⟩).se], .bool (tiB s)], (s.length ≤ 1000000))
  | _, _ => none
theorem tb_specTimeR_ok : ∀ E args E' res p, tb_specTimeR E args = some (E', res, p) → p → SpecE Tryz.prog 200 E args E' res := by
  intro E args E' res p h hp
  unfold tb_specTimeR at h
  split at h
  · simp only [Option.some.injEq, Prod.mk.injEq] at h
    obtain ⟨rfl, rfl, rfl⟩ := h
    exact (specTimeR _ _ _ _ _ _ _ hp)
  · cases h
def T_specDayR : Tbl := fun g E args => (addT (addT nilT 201 Go.Proofs.Tryz.Civil.tb_pDaysR) 202 Go.Proofs.Tryz.Civil.tb_pWeekdayR) g E args
theorem T_specDayR_ok : TblOK Tryz.prog T_specDayR := (addT_ok (addT_ok nilT_ok (by decide +kernel) Go.Proofs.Tryz.Civil.tb_pDaysR_ok) (by decide +kernel) Go.Proofs.Tryz.Civil.tb_pWeekdayR_ok)
set_option maxRecDepth 100000 in
set_option maxHeartbeats 4000000 in
theorem specDayR (y mo d h mi se : Int) : SpecE Tryz.prog 177 [] [.agg [.int .i64 y, .int .i64 mo, .int .i64 d, .int .i64 h, .int .i64 mi, .int .i64 se]] [] (.int .i64 (weekday (dayAns y mo d))) := by
  refine specF0 (C := T_specDayR) (wr := false) (D := fun _ => []) (U := fun _ => none) (res := [.int .i64 (weekday (dayAns y mo d))]) Tryz.Ty.mixed T_specDayR_ok Tryz.func177 (nA := 1) (by decide +kernel) rfl (fun _ => rfl) ?_
  simp only [Tryz.f177, bodyOf, rlOf]
  rw [W_V]
  simp (config := {maxSteps := 2000000}) only [T_specDayR, Go.Proofs.Tryz.Civil.tb_pDaysR, Go.Proofs.Tryz.Civil.tb_pWeekdayR, go_sem, seval]
  (try simp (config := {maxSteps := 2000000}) only [gimp, impB, isT, go_sem, seval])
def tb_specDayR : List Blk → List AV → Option (List Blk × AV × Prop)
  | [], [.agg [.int .i64 y, .int .i64 mo, .int .i64 d, .int .i64 h, .int .i64 mi, .int .i64 se]] => some ([], .int .i64 (weekday (dayAns y mo d)), True)
  | _, _ => none
theorem tb_specDayR_ok : ∀ E args E' res p, tb_specDayR E args = some (E', res, p) → p → SpecE Tryz.prog 177 E args E' res := by
  intro E args E' res p h hp
  unfold tb_specDayR at h
  split at h
  · simp only [Option.some.injEq, Prod.mk.injEq] at h
    obtain ⟨rfl, rfl, rfl⟩ := h
    exact (specDayR _ _ _ _ _ _)
  · cases h
theorem pad_le (n w : Int) : (padS n w).length ≤ 100 := by
  have h := textI_len n
  unfold padS
  split
  · omega
  · rw [List.length_append, List.length_replicate]; omega
theorem clk_le (d : Dt) : (clkS d).length ≤ 302 := by
  have h1 := pad_le d.h 2
  have h2 := pad_le d.mi 2
  have h3 := pad_le d.se 2
  unfold clkS
  simp only [List.length_append, List.length_cons, List.length_nil]
  omega
def T_specClockR : Tbl := fun g E args => (addT nilT 181 Go.Proofs.Tryz.HdtR.tb_specPadR) g E args
theorem T_specClockR_ok : TblOK Tryz.prog T_specClockR := (addT_ok nilT_ok (by decide +kernel) Go.Proofs.Tryz.HdtR.tb_specPadR_ok)
set_option maxRecDepth 100000 in
set_option maxHeartbeats 4000000 in
theorem specClockR (y mo d h mi se : Int) (hh : inR .i64 h) (hm : inR .i64 mi) (hs : inR .i64 se) : SpecE Tryz.prog 182 [] [.agg [.int .i64 y, .int .i64 mo, .int .i64 d, .int .i64 h, .int .i64 mi, .int .i64 se]] [] (.str (clkS ⟨y, mo, d, h, mi, se⟩)) := by
  refine specF0 (C := T_specClockR) (wr := false) (D := fun _ => []) (U := fun _ => none) (res := [.str (clkS ⟨y, mo, d, h, mi, se⟩)]) Tryz.Ty.mixed T_specClockR_ok Tryz.func182 (nA := 1) (by decide +kernel) rfl (fun _ => rfl) ?_
  simp only [Tryz.f182, bodyOf, rlOf]
  rw [W_V]
  simp (config := {maxSteps := 2000000}) only [T_specClockR, Go.Proofs.Tryz.HdtR.tb_specPadR, go_sem, seval, clkS]
  (try simp (config := {maxSteps := 2000000}) only [gimp, impB, isT, go_sem, seval])
  have h1 := pad_le h 2
  have h2 := pad_le mi 2
  have h3 := pad_le se 2
  simp only [inR] at hh hm hs
  and_intros <;> first | omega | rfl | (simp only [List.length_append, List.length_cons, List.length_nil]; omega)
def tb_specClockR : List Blk → List AV → Option (List Blk × AV × Prop)
  | [], [.agg [.int .i64 y, .int .i64 mo, .int .i64 d, .int .i64 h, .int .i64 mi, .int .i64 se]] => some ([], .str (clkS ⟨y, mo, d, h, mi, se⟩), (inR .i64 h) ∧ (inR .i64 mi) ∧ (inR .i64 se))
  | _, _ => none
theorem tb_specClockR_ok : ∀ E args E' res p, tb_specClockR E args = some (E', res, p) → p → SpecE Tryz.prog 182 E args E' res := by
  intro E args E' res p h hp
  unfold tb_specClockR at h
  split at h
  · simp only [Option.some.injEq, Prod.mk.injEq] at h
    obtain ⟨rfl, rfl, rfl⟩ := h
    exact (specClockR _ _ _ _ _ _ hp.1 hp.2.1 hp.2.2)
  · cases h
def T_specWriteR : Tbl := fun g E args => (addT (addT (addT (addT (addT nilT 181 Go.Proofs.Tryz.HdtR.tb_specPadR) 182 Go.Proofs.Tryz.HdtR.tb_specClockR) 177 Go.Proofs.Tryz.HdtR.tb_specDayR) 179 Go.Proofs.Tryz.HdtR.tb_specDaysR) 180 Go.Proofs.Tryz.HdtR.tb_specMonthsR) g E args
theorem T_specWriteR_ok : TblOK Tryz.prog T_specWriteR := (addT_ok (addT_ok (addT_ok (addT_ok (addT_ok nilT_ok (by decide +kernel) Go.Proofs.Tryz.HdtR.tb_specPadR_ok) (by decide +kernel) Go.Proofs.Tryz.HdtR.tb_specClockR_ok) (by decide +kernel) Go.Proofs.Tryz.HdtR.tb_specDayR_ok) (by decide +kernel) Go.Proofs.Tryz.HdtR.tb_specDaysR_ok) (by decide +kernel) Go.Proofs.Tryz.HdtR.tb_specMonthsR_ok)
set_option maxRecDepth 100000 in
set_option maxHeartbeats 4000000 in
theorem specWriteR (y mo d h mi se form : Int) (hd : dtIn ⟨y, mo, d, h, mi, se⟩ (weekday (dayAns y mo d))) : SpecE Tryz.prog 146 [] [.agg [.int .i64 y, .int .i64 mo, .int .i64 d, .int .i64 h, .int .i64 mi, .int .i64 se], .int .i64 form] [] (.str (writeS ⟨y, mo, d, h, mi, se⟩ (weekday (dayAns y mo d)) form)) := by
  refine specF0 (C := T_specWriteR) (wr := false) (D := fun i => if i = 1 then [0, 5, 10048, 20048, 80048, 60048, 60144, 40144, 50144] else []) (U := fun _ => none) (res := [.str (writeS ⟨y, mo, d, h, mi, se⟩ (weekday (dayAns y mo d)) form)]) Tryz.Ty.mixed T_specWriteR_ok Tryz.func146 (nA := 2) (by decide +kernel) rfl (fun _ => rfl) ?_
  simp only [Tryz.f146, bodyOf, rlOf]
  rw [W_V]
  simp (config := {maxSteps := 2000000}) only [T_specWriteR, Go.Proofs.Tryz.HdtR.tb_specPadR, Go.Proofs.Tryz.HdtR.tb_specClockR, Go.Proofs.Tryz.HdtR.tb_specDayR, Go.Proofs.Tryz.HdtR.tb_specDaysR, Go.Proofs.Tryz.HdtR.tb_specMonthsR, go_sem, seval]
  (try simp (config := {maxSteps := 2000000}) only [gimp, impB, isT, go_sem, seval])
  obtain ⟨hw, hy, hmo, hd, hh, hmi, hse⟩ := hd
  simp only at hy hmo hd hh hmi hse
  have c := clk_le ⟨y, mo, d, h, mi, se⟩
  have p1 := pad_le d 2
  have p2 := pad_le y 4
  have p3 := pad_le (y.tmod 100) 2
  have p4 := pad_le d 1
  have et : y.tmod 100 = y % 100 := rem_nn _ (by omega)
  generalize ew : weekday (dayAns y mo d) = w at *
  have l1 : hdDays.length = 7 := rfl
  have l2 : hdMonths.length = 12 := rfl
  have g1 := (day_cases (k := w.toNat) (by omega)).2.2.2.2.2.1
  have g1' : (hdDays.getD w.toNat []).length ≤ 9 := by
    have : w.toNat = 0 ∨ w.toNat = 1 ∨ w.toNat = 2 ∨ w.toNat = 3 ∨ w.toNat = 4 ∨ w.toNat = 5 ∨ w.toNat = 6 := by omega
    rcases this with e | e | e | e | e | e | e <;> rw [e] <;> decide
  have g2 := (month_cases (k := (mo - 1).toNat) (by omega)).2.1
  simp only [Nat.zero_add, l1, l2, et]
  rw [et] at p3
  unfold writeS
  generalize hdDays.getD w.toNat [] = W at *
  generalize hdMonths.getD (mo - 1).toNat [] = M at *
  generalize clkS ⟨y, mo, d, h, mi, se⟩ = K at *
  refine ⟨?_, ?_, ?_, ?_, ?_, fun h1 => ?_, fun h1 => ⟨fun h2 => ?_, fun h2 => ?_⟩⟩
  iterate 5
    · (first | omega | (simp only [true_and]; omega))
  · rw [if_pos h1]
    and_intros <;> first | omega | rfl | (simp only [List.length_append, List.length_cons, List.length_nil, List.length_take]; omega) | (simp only [List.append_assoc, List.cons_append, List.nil_append]; done)
  · rw [if_neg h1, if_pos h2]
    and_intros <;> first | omega | rfl | (simp only [List.length_append, List.length_cons, List.length_nil, List.length_take]; omega) | (simp only [List.append_assoc, List.cons_append, List.nil_append]; done)
  · rw [if_neg h1, if_neg h2]
    refine ⟨by omega, fun h3 => ?_, fun h3 => ?_⟩
    · rw [if_pos h3]
      and_intros <;> first | omega | rfl | (simp only [List.length_append, List.length_cons, List.length_nil, List.length_take]; omega) | (simp only [List.append_assoc, List.cons_append, List.nil_append]; done)
    · rw [if_neg (by simp only; omega)]
      and_intros <;> first | omega | rfl | (simp only [List.length_append, List.length_cons, List.length_nil, List.length_take]; omega) | (simp only [List.append_assoc, List.cons_append, List.nil_append]; done)
def tb_specWriteR : List Blk → List AV → Option (List Blk × AV × Prop)
  | [], [.agg [.int .i64 y, .int .i64 mo, .int .i64 d, .int .i64 h, .int .i64 mi, .int .i64 se], .int .i64 form] => some ([], .str (writeS ⟨y, mo, d, h, mi, se⟩ (weekday (dayAns y mo d)) form), (dtIn ⟨y, mo, d, h, mi, se⟩ (weekday (dayAns y mo d))))
  | _, _ => none
theorem tb_specWriteR_ok : ∀ E args E' res p, tb_specWriteR E args = some (E', res, p) → p → SpecE Tryz.prog 146 E args E' res := by
  intro E args E' res p h hp
  unfold tb_specWriteR at h
  split at h
  · simp only [Option.some.injEq, Prod.mk.injEq] at h
    obtain ⟨rfl, rfl, rfl⟩ := h
    exact (specWriteR _ _ _ _ _ _ _ hp)
  · cases h
end Go.Proofs.Tryz.HdtR
end
section
set_option linter.unusedVariables false
set_option linter.unusedSimpArgs false
namespace Go.Proofs.Tryz.HdtR
open Go Go.Abs Go.Proofs Go.Mdl Go.Proofs.Tryz.Civil
def fmD (i : Nat) : List Nat :=
  if i = 6 then [0] else if i = 11 then [0, 6] else if i = 20 then [7, 8, 80160, 30160, 90160, 40160] else if i = 25 then [2] else if i = 33 then [0, 6] else if i = 35 then [7, 8, 80160, 30160, 90160, 40160]
  else if i = 36 then [18, 190304, 10304, 60304, 110304, 160304] else if i = 40 then [0, 6] else if i = 44 then [7] else if i = 45 then [18, 190160, 10160, 60160, 110160, 160160] else []
theorem wk_new : ∀ k < 7, (hdDays3.take k).any (fun w => decide (w = (hdDays.getD k []).take 3)) = false := by decide
theorem wk_get : ∀ k < 7, hdDays3.getD k [] = (hdDays.getD k []).take 3 := by decide
theorem wk_step {k : Nat} (h : k < 7) (x : List UInt8) : ixN (hdDays3.take (k + 1)) x = if x = (hdDays.getD k []).take 3 then (k : Int) else ixN (hdDays3.take k) x := by
  have h7 : hdDays3.length = 7 := rfl
  rw [take_succ_getD [] (by omega), wk_get k h]
  by_cases e : x = (hdDays.getD k []).take 3
  · rw [if_pos e]
    have h1 := wk_new k h
    rw [← e] at h1 ⊢
    have hl : (hdDays3.take k).length = k := by rw [List.length_take]; omega
    apply idxP_hit (x := k) []
    · rw [List.length_append, hl]; simp
    · rw [List.take_append_of_le_length (by omega), List.take_of_length_le (by omega)]; exact h1
    · rw [List.getD_eq_getElem?_getD, List.getElem?_append_right (by omega), hl]; simp
  · rw [if_neg e]
    by_cases hm : x ∈ hdDays3.take k
    · have h1 := (ixN_mem hm).1
      have h2 : x ∈ hdDays3.take k ++ [(hdDays.getD k []).take 3] := List.mem_append_left _ hm
      rw [(ixN_mem h2).1, h1, List.findIdx_append, if_pos]
      rw [List.findIdx_lt_length]; exact ⟨x, hm, by simp⟩
    · have h2 : ¬ x ∈ hdDays3.take k ++ [(hdDays.getD k []).take 3] := by
        simp only [List.mem_append, List.mem_singleton, not_or]; exact ⟨hm, e⟩
      rw [ixN_not hm, ixN_not h2]
def wkK (s : List UInt8) (k : Nat) : Int := if 3 < s.length then ixN (hdDays3.take k) (s.take 3) else -1
theorem wkK_7 (s : List UInt8) : wkK s 7 = wkI s := rfl
theorem wkK_0 (s : List UInt8) : wkK s 0 = -1 := by unfold wkK; split <;> rfl
theorem wkK_succ {s : List UInt8} {k : Nat} (h3 : 3 < s.length) (h : k < 7) : wkK s (k + 1) = if s.take 3 = (hdDays.getD k []).take 3 then (k : Int) else wkK s k := by
  simp only [wkK, if_pos h3]; exact wk_step h _
theorem wkK_end {s : List UInt8} {k : Nat} (hk : k ≤ 7) (hk2 : k = 0 ∨ 3 < s.length) (h : (decide ((k : Int) < 7) && decide (3 < (s.length : Int))) = false) : wkK s k = wkI s := by
  simp only [Bool.and_eq_false_iff, decide_eq_false_iff_not] at h
  by_cases h3 : 3 < s.length
  · have : k = 7 := by omega
    rw [this, wkK_7]
  · have : k = 0 := by omega
    rw [this, wkK_0, wkI, if_neg h3]
theorem ix_range (l : List (List UInt8)) (x : List UInt8) : -1 ≤ ixN l x ∧ ixN l x ≤ l.length := by
  have := idxP_range (fun w => decide (w = x)) l
  unfold ixN; omega
theorem tiD_y (x : List UInt8) (d : Dt) : (tiD x d).y = d.y := by unfold tiD; split <;> rfl
theorem tiD_mo (x : List UInt8) (d : Dt) : (tiD x d).mo = d.mo := by unfold tiD; split <;> rfl
theorem tiD_d (x : List UInt8) (d : Dt) : (tiD x d).d = d.d := by unfold tiD; split <;> rfl
theorem m12 : List.take 12 hdMonths = hdMonths := rfl
theorem day_len {k : Nat} (h : k < 7) : 3 ≤ ((hdDays.getD k []).length : Int) := by have := (day_cases h).2.2.2.2.2.1; omega
def zdt : AV := .agg [.int .i64 0, .int .i64 0, .int .i64 0, .int .i64 0, .int .i64 0, .int .i64 0]
def fmSt (s : List UInt8) (form now week : Int) (k : Nat) : St := ⟨[(0, .str s), (1, .int .i64 form), (2, .int .i64 now), (6, .ptr 112 0 0 1), (7, .int .i64 0), (8, .bool false), (9, .ptr 160 0 0 1), (10, .int .i64 week), (17, .int .i64 k)],
  [(112, .cells 6 false zdt [zdt]), (160, .cells 6 false zdt [zdt])]⟩
def T_specForm1R : Tbl := fun g E args => (addT (addT (addT (addT (addT (addT nilT 199 Go.Proofs.Tryz.HdtR.tb_specNumberR) 200 Go.Proofs.Tryz.HdtR.tb_specTimeR) 179 Go.Proofs.Tryz.HdtR.tb_specDaysR) 180 Go.Proofs.Tryz.HdtR.tb_specMonthsR) 198 Go.Proofs.Tryz.HdtR.tb_specIndexR) 145 Go.Proofs.Tryz.Civil.tb_specDateR) g E args
theorem T_specForm1R_ok : TblOK Tryz.prog T_specForm1R := (addT_ok (addT_ok (addT_ok (addT_ok (addT_ok (addT_ok nilT_ok (by decide +kernel) Go.Proofs.Tryz.HdtR.tb_specNumberR_ok) (by decide +kernel) Go.Proofs.Tryz.HdtR.tb_specTimeR_ok) (by decide +kernel) Go.Proofs.Tryz.HdtR.tb_specDaysR_ok) (by decide +kernel) Go.Proofs.Tryz.HdtR.tb_specMonthsR_ok) (by decide +kernel) Go.Proofs.Tryz.HdtR.tb_specIndexR_ok) (by decide +kernel) Go.Proofs.Tryz.Civil.tb_specDateR_ok)
set_option maxRecDepth 100000 in
set_option maxHeartbeats 4000000 in
theorem specForm1R (s : List UInt8) (now : Int) (hs : s.length ≤ 1000000) (hn : inR .i64 now) : SpecE Tryz.prog 175 [] [.str s, .int .i64 1, .int .i64 now] [] (.tuple [.agg [.int .i64 (form1 s).d.y, .int .i64 (form1 s).d.mo, .int .i64 (form1 s).d.d, .int .i64 (form1 s).d.h, .int .i64 (form1 s).d.mi, .int .i64 (form1 s).d.se], .int .i64 (form1 s).week, .bool (form1 s).ok]) := by
  refine specF0 (C := T_specForm1R) (wr := false) (D := fmD) (U := fun _ => none) (res := [.agg [.int .i64 (form1 s).d.y, .int .i64 (form1 s).d.mo, .int .i64 (form1 s).d.d, .int .i64 (form1 s).d.h, .int .i64 (form1 s).d.mi, .int .i64 (form1 s).d.se], .int .i64 (form1 s).week, .bool (form1 s).ok]) Tryz.Ty.mixed T_specForm1R_ok Tryz.func175 (nA := 3) (by decide +kernel) rfl (fun _ => rfl) ?_
  simp only [Tryz.f175, bodyOf, rlOf]
  rw [W_V]
  simp (config := {maxSteps := 2000000}) only [T_specForm1R, Go.Proofs.Tryz.HdtR.tb_specNumberR, Go.Proofs.Tryz.HdtR.tb_specTimeR, Go.Proofs.Tryz.HdtR.tb_specDaysR, Go.Proofs.Tryz.HdtR.tb_specMonthsR, Go.Proofs.Tryz.HdtR.tb_specIndexR, Go.Proofs.Tryz.Civil.tb_specDateR, go_sem, seval, fmD]
  (try simp (config := {maxSteps := 2000000}) only [gimp, impB, isT, go_sem, seval])
  refine VL_inv (X := Nat) (fun k => fmSt s 1 now (wkK s k) k) (fun k => k ≤ 7 ∧ (k = 0 ∨ 3 < s.length)) (fun k => 7 - k) 0 ?_ ?_ ?_
  · simp only [T_specForm1R, Go.Proofs.Tryz.HdtR.tb_specNumberR, Go.Proofs.Tryz.HdtR.tb_specTimeR, Go.Proofs.Tryz.HdtR.tb_specDaysR, Go.Proofs.Tryz.HdtR.tb_specMonthsR, Go.Proofs.Tryz.HdtR.tb_specIndexR, Go.Proofs.Tryz.Civil.tb_specDateR, go_sem, seval, fmD, fmSt, zdt, wkK_0]
    try rfl
  · omega
  rintro k ⟨hk, hk2⟩
  unfold fmSt zdt
  simp (config := {maxSteps := 2000000}) only [T_specForm1R, Go.Proofs.Tryz.HdtR.tb_specNumberR, Go.Proofs.Tryz.HdtR.tb_specTimeR, Go.Proofs.Tryz.HdtR.tb_specDaysR, Go.Proofs.Tryz.HdtR.tb_specMonthsR, Go.Proofs.Tryz.HdtR.tb_specIndexR, Go.Proofs.Tryz.Civil.tb_specDateR, go_sem, seval, fmD]
  (try simp (config := {maxSteps := 2000000}) only [gimp, impB, isT, go_sem, seval])
  have hd7 : hdDays.length = 7 := rfl
  have hm12 : hdMonths.length = 12 := rfl
  simp only [Nat.zero_add, m12]
  refine ⟨fun h1 h2 => ?_, fun hx => ?_⟩
  · have h1' : k < 7 := by omega
    have h2' : 3 < s.length := by omega
    have hw := wkK_succ h2' h1'
    refine ⟨by omega, by omega, by omega, day_len h1', fun e => ⟨by omega, k + 1, ⟨?_, by omega⟩, by omega, by omega⟩, fun e => ⟨by omega, k + 1, ⟨?_, by omega⟩, by omega, by omega⟩⟩
    · rw [hw, if_pos e]
    · rw [hw, if_neg e]
  rw [wkK_end hk hk2 hx]
  refine ⟨fun hw => ?_, fun hw => ?_⟩
  · rw [form1, if_pos hw]; exact ⟨rfl, rfl, rfl⟩
  rw [form1, if_neg (by omega)]
  refine ⟨by omega, fun _ _ => by omega, fun _ _ _ => by omega, fun _ _ _ _ => by omega, fun _ _ _ _ _ => by omega, fun h => ?_, fun h1 h2 h3 h4 h5 h6 => ?_⟩
  · have hf : ¬ f1Ok s = true := by
      unfold f1Ok
      simp only [Bool.and_eq_true, decide_eq_true_eq]
      rintro ⟨⟨⟨⟨⟨g1, g2⟩, g3⟩, g4⟩, g5⟩, g6⟩
      rcases h with ((((h | h) | h) | h) | h) | h
      · exact h (by omega)
      · exact h g2
      · exact h g3
      · exact h g4
      · exact h g5
      · exact h g6
    rw [if_neg hf]; exact ⟨rfl, rfl, rfl⟩
  · have hl : s.length = 29 := by omega
    have hf : f1Ok s = true := by
      unfold f1Ok
      simp only [Bool.and_eq_true, decide_eq_true_eq]
      exact ⟨⟨⟨⟨⟨hl, h2⟩, h3⟩, h4⟩, h5⟩, h6⟩
    have hr := ix_range hdMonths (List.drop 8 (List.take 11 s))
    rw [if_pos hf]
    refine ⟨by omega, ?_, by omega, by omega, by omega, by omega, ?_, by omega, ?_, rfl, rfl, ?_⟩
    · rw [List.length_drop, List.length_take]; omega
    · rw [List.length_drop, List.length_take]; omega
    · rw [List.length_drop, List.length_take]; omega
    · simp only [tiD_y, tiD_mo, tiD_d, dtOk, f1D, dt0, Bool.and_assoc]
      rfl
end Go.Proofs.Tryz.HdtR
end
section
set_option linter.unusedVariables false
set_option linter.unusedSimpArgs false
namespace Go.Proofs.Tryz.HdtR
open Go Go.Abs Go.Proofs Go.Mdl Go.Proofs.Tryz.Civil
def T_specForm3R : Tbl := fun g E args => (addT (addT (addT (addT (addT (addT nilT 199 Go.Proofs.Tryz.HdtR.tb_specNumberR) 200 Go.Proofs.Tryz.HdtR.tb_specTimeR) 179 Go.Proofs.Tryz.HdtR.tb_specDaysR) 180 Go.Proofs.Tryz.HdtR.tb_specMonthsR) 198 Go.Proofs.Tryz.HdtR.tb_specIndexR) 145 Go.Proofs.Tryz.Civil.tb_specDateR) g E args
theorem T_specForm3R_ok : TblOK Tryz.prog T_specForm3R := (addT_ok (addT_ok (addT_ok (addT_ok (addT_ok (addT_ok nilT_ok (by decide +kernel) Go.Proofs.Tryz.HdtR.tb_specNumberR_ok) (by decide +kernel) Go.Proofs.Tryz.HdtR.tb_specTimeR_ok) (by decide +kernel) Go.Proofs.Tryz.HdtR.tb_specDaysR_ok) (by decide +kernel) Go.Proofs.Tryz.HdtR.tb_specMonthsR_ok) (by decide +kernel) Go.Proofs.Tryz.HdtR.tb_specIndexR_ok) (by decide +kernel) Go.Proofs.Tryz.Civil.tb_specDateR_ok)
set_option maxRecDepth 100000 in
set_option maxHeartbeats 4000000 in
theorem specForm3R (s : List UInt8) (now : Int) (hs : s.length ≤ 1000000) (hn : inR .i64 now) : SpecE Tryz.prog 175 [] [.str s, .int .i64 3, .int .i64 now] [] (.tuple [.agg [.int .i64 (form3 s).d.y, .int .i64 (form3 s).d.mo, .int .i64 (form3 s).d.d, .int .i64 (form3 s).d.h, .int .i64 (form3 s).d.mi, .int .i64 (form3 s).d.se], .int .i64 (form3 s).week, .bool (form3 s).ok]) := by
  refine specF0 (C := T_specForm3R) (wr := false) (D := fmD) (U := fun _ => none) (res := [.agg [.int .i64 (form3 s).d.y, .int .i64 (form3 s).d.mo, .int .i64 (form3 s).d.d, .int .i64 (form3 s).d.h, .int .i64 (form3 s).d.mi, .int .i64 (form3 s).d.se], .int .i64 (form3 s).week, .bool (form3 s).ok]) Tryz.Ty.mixed T_specForm3R_ok Tryz.func175 (nA := 3) (by decide +kernel) rfl (fun _ => rfl) ?_
  simp only [Tryz.f175, bodyOf, rlOf]
  rw [W_V]
  simp (config := {maxSteps := 2000000}) only [T_specForm3R, Go.Proofs.Tryz.HdtR.tb_specNumberR, Go.Proofs.Tryz.HdtR.tb_specTimeR, Go.Proofs.Tryz.HdtR.tb_specDaysR, Go.Proofs.Tryz.HdtR.tb_specMonthsR, Go.Proofs.Tryz.HdtR.tb_specIndexR, Go.Proofs.Tryz.Civil.tb_specDateR, go_sem, seval, fmD]
  (try simp (config := {maxSteps := 2000000}) only [gimp, impB, isT, go_sem, seval])
  refine VL_inv (X := Nat) (fun k => fmSt s 3 now (wkK s k) k) (fun k => k ≤ 7 ∧ (k = 0 ∨ 3 < s.length)) (fun k => 7 - k) 0 ?_ ?_ ?_
  · simp only [T_specForm3R, Go.Proofs.Tryz.HdtR.tb_specNumberR, Go.Proofs.Tryz.HdtR.tb_specTimeR, Go.Proofs.Tryz.HdtR.tb_specDaysR, Go.Proofs.Tryz.HdtR.tb_specMonthsR, Go.Proofs.Tryz.HdtR.tb_specIndexR, Go.Proofs.Tryz.Civil.tb_specDateR, go_sem, seval, fmD, fmSt, zdt, wkK_0]
    try rfl
  · omega
  rintro k ⟨hk, hk2⟩
  unfold fmSt zdt
  simp (config := {maxSteps := 2000000}) only [T_specForm3R, Go.Proofs.Tryz.HdtR.tb_specNumberR, Go.Proofs.Tryz.HdtR.tb_specTimeR, Go.Proofs.Tryz.HdtR.tb_specDaysR, Go.Proofs.Tryz.HdtR.tb_specMonthsR, Go.Proofs.Tryz.HdtR.tb_specIndexR, Go.Proofs.Tryz.Civil.tb_specDateR, go_sem, seval, fmD]
  (try simp (config := {maxSteps := 2000000}) only [gimp, impB, isT, go_sem, seval])
  have hd7 : hdDays.length = 7 := rfl
  have hm12 : hdMonths.length = 12 := rfl
  simp only [Nat.zero_add, m12]
  refine ⟨fun h1 h2 => ?_, fun hx => ?_⟩
  · have h1' : k < 7 := by omega
    have h2' : 3 < s.length := by omega
    have hw := wkK_succ h2' h1'
    refine ⟨by omega, by omega, by omega, day_len h1', fun e => ⟨by omega, k + 1, ⟨?_, by omega⟩, by omega, by omega⟩, fun e => ⟨by omega, k + 1, ⟨?_, by omega⟩, by omega, by omega⟩⟩
    · rw [hw, if_pos e]
    · rw [hw, if_neg e]
  rw [wkK_end hk hk2 hx]
  refine ⟨fun hw => ?_, fun hw => ?_⟩
  · rw [form3, if_pos hw]; exact ⟨rfl, rfl, rfl⟩
  rw [form3, if_neg (by omega)]
  refine ⟨by omega, fun _ _ => by omega, fun _ _ _ => by omega, fun _ _ _ _ => by omega, fun h => ?_, fun h1 h2 h3 h4 h5 => ?_⟩
  · have hf : ¬ f3Ok s = true := by
      unfold f3Ok
      simp only [Bool.and_eq_true, decide_eq_true_eq]
      rintro ⟨⟨⟨⟨g1, g2⟩, g3⟩, g4⟩, g5⟩
      rcases h with (((h | h) | h) | h) | h
      · exact h (by omega)
      · exact h g2
      · exact h g3
      · exact h g4
      · exact h g5
    rw [if_neg hf]; exact ⟨rfl, rfl, rfl⟩
  · have hl : s.length = 24 := by omega
    have hf : f3Ok s = true := by
      unfold f3Ok
      simp only [Bool.and_eq_true, decide_eq_true_eq]
      exact ⟨⟨⟨⟨hl, h2⟩, h3⟩, h4⟩, h5⟩
    have hr := ix_range hdMonths (List.drop 4 (List.take 7 s))
    rw [if_pos hf]
    refine ⟨by omega, ?_, by omega, by omega, by omega, by omega, ?_, by omega, fun h8 => ⟨by omega, ?_, by omega, ?_, ?_, rfl, ?_⟩, fun h8 => ⟨by omega, ?_, ?_, rfl, ?_⟩⟩
    · rw [List.length_drop, List.length_take]; omega
    · rw [List.length_drop]; omega
    · rw [List.length_drop, List.length_take]; omega
    · rw [List.length_drop, List.length_take]; omega
    · simp only [f3D, dt0, h8, if_true]
    · simp only [tiD_y, tiD_mo, tiD_d, dtOk, f3D, dt0, Bool.and_assoc, h8, if_true]
      try rfl
    · rw [List.length_drop, List.length_take]; omega
    · simp only [f3D, dt0, h8, if_false]
    · simp only [tiD_y, tiD_mo, tiD_d, dtOk, f3D, dt0, Bool.and_assoc, h8, if_false]
      try rfl
end Go.Proofs.Tryz.HdtR
end
