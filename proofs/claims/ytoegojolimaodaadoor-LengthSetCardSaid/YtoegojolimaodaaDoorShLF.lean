import Derived.Test.YtoegojolimaodaaDoorShLE
import Derived.Test.YtoegojolimaodaaDoorRows
import Derived.JoinedOf
import Derived.KernelRfl
section
set_option linter.unusedVariables false
set_option maxRecDepth 100000
namespace Go.Proofs.YtoegojolimaodaaDoor.Facts
open Go Go.Proofs
theorem andT {a b : Bool} (ha : a = true) (hb : b = true) : (a && b) = true := by rw [ha, hb]; rfl
theorem init : Tryd.pinned.checked.prog.initOrder.toList = [Char.ofNat 104, Char.ofNat 97, Char.ofNat 114, Char.ofNat 110, Char.ofNat 101, Char.ofNat 115, Char.ofNat 115, Char.ofNat 32, Char.ofNat 55, Char.ofNat 98, Char.ofNat 100, Char.ofNat 56, Char.ofNat 57, Char.ofNat 48, Char.ofNat 55, Char.ofNat 55, Char.ofNat 97, Char.ofNat 53, Char.ofNat 56, Char.ofNat 50, Char.ofNat 101, Char.ofNat 48, Char.ofNat 56, Char.ofNat 50, Char.ofNat 57, Char.ofNat 48, Char.ofNat 101, Char.ofNat 100, Char.ofNat 55, Char.ofNat 99, Char.ofNat 55, Char.ofNat 99, Char.ofNat 98, Char.ofNat 101, Char.ofNat 53, Char.ofNat 53, Char.ofNat 101, Char.ofNat 49, Char.ofNat 101, Char.ofNat 56, Char.ofNat 51, Char.ofNat 49, Char.ofNat 97, Char.ofNat 49, Char.ofNat 50, Char.ofNat 99, Char.ofNat 52, Char.ofNat 101, Char.ofNat 49, Char.ofNat 49, Char.ofNat 50, Char.ofNat 54, Char.ofNat 99, Char.ofNat 55, Char.ofNat 53, Char.ofNat 48, Char.ofNat 54, Char.ofNat 56, Char.ofNat 100, Char.ofNat 48, Char.ofNat 55, Char.ofNat 100, Char.ofNat 53, Char.ofNat 98, Char.ofNat 49, Char.ofNat 57, Char.ofNat 98, Char.ofNat 51, Char.ofNat 55, Char.ofNat 102, Char.ofNat 99, Char.ofNat 50, Char.ofNat 32, Char.ofNat 99, Char.ofNat 117, Char.ofNat 116, Char.ofNat 32, Char.ofNat 97, Char.ofNat 116, Char.ofNat 32, Char.ofNat 97, Char.ofNat 98, Char.ofNat 117, Char.ofNat 116, Char.ofNat 109, Char.ofNat 101, Char.ofNat 110, Char.ofNat 116, Char.ofNat 47, Char.ofNat 97, Char.ofNat 98, Char.ofNat 117, Char.ofNat 116, Char.ofNat 109, Char.ofNat 101, Char.ofNat 110, Char.ofNat 116, Char.ofNat 108, Char.ofNat 97, Char.ofNat 119, Char.ofNat 49, Char.ofNat 56, Char.ofNat 46, Char.ofNat 76, Char.ofNat 101, Char.ofNat 110, Char.ofNat 103, Char.ofNat 116, Char.ofNat 104, Char.ofNat 79, Char.ofNat 102, Char.ofNat 32, Char.ofNat 97, Char.ofNat 98, Char.ofNat 117, Char.ofNat 116, Char.ofNat 109, Char.ofNat 101, Char.ofNat 110, Char.ofNat 116, Char.ofNat 47, Char.ofNat 97, Char.ofNat 98, Char.ofNat 117, Char.ofNat 116, Char.ofNat 109, Char.ofNat 101, Char.ofNat 110, Char.ofNat 116, Char.ofNat 108, Char.ofNat 97, Char.ofNat 119, Char.ofNat 49, Char.ofNat 56, Char.ofNat 46, Char.ofNat 76, Char.ofNat 101, Char.ofNat 110, Char.ofNat 103, Char.ofNat 116, Char.ofNat 104, Char.ofNat 83, Char.ofNat 101, Char.ofNat 116, Char.ofNat 32, Char.ofNat 97, Char.ofNat 98, Char.ofNat 117, Char.ofNat 116, Char.ofNat 109, Char.ofNat 101, Char.ofNat 110, Char.ofNat 116, Char.ofNat 47, Char.ofNat 97, Char.ofNat 98, Char.ofNat 117, Char.ofNat 116, Char.ofNat 109, Char.ofNat 101, Char.ofNat 110, Char.ofNat 116, Char.ofNat 108, Char.ofNat 97, Char.ofNat 119, Char.ofNat 52, Char.ofNat 53, Char.ofNat 46, Char.ofNat 83, Char.ofNat 99, Char.ofNat 114, Char.ofNat 105, Char.ofNat 112, Char.ofNat 116, Char.ofNat 81, Char.ofNat 117, Char.ofNat 111, Char.ofNat 116, Char.ofNat 101, Char.ofNat 115] := by
  have e : Tryd.pinned.checked.prog.initOrder = String.ofList [Char.ofNat 104, Char.ofNat 97, Char.ofNat 114, Char.ofNat 110, Char.ofNat 101, Char.ofNat 115, Char.ofNat 115, Char.ofNat 32, Char.ofNat 55, Char.ofNat 98, Char.ofNat 100, Char.ofNat 56, Char.ofNat 57, Char.ofNat 48, Char.ofNat 55, Char.ofNat 55, Char.ofNat 97, Char.ofNat 53, Char.ofNat 56, Char.ofNat 50, Char.ofNat 101, Char.ofNat 48, Char.ofNat 56, Char.ofNat 50, Char.ofNat 57, Char.ofNat 48, Char.ofNat 101, Char.ofNat 100, Char.ofNat 55, Char.ofNat 99, Char.ofNat 55, Char.ofNat 99, Char.ofNat 98, Char.ofNat 101, Char.ofNat 53, Char.ofNat 53, Char.ofNat 101, Char.ofNat 49, Char.ofNat 101, Char.ofNat 56, Char.ofNat 51, Char.ofNat 49, Char.ofNat 97, Char.ofNat 49, Char.ofNat 50, Char.ofNat 99, Char.ofNat 52, Char.ofNat 101, Char.ofNat 49, Char.ofNat 49, Char.ofNat 50, Char.ofNat 54, Char.ofNat 99, Char.ofNat 55, Char.ofNat 53, Char.ofNat 48, Char.ofNat 54, Char.ofNat 56, Char.ofNat 100, Char.ofNat 48, Char.ofNat 55, Char.ofNat 100, Char.ofNat 53, Char.ofNat 98, Char.ofNat 49, Char.ofNat 57, Char.ofNat 98, Char.ofNat 51, Char.ofNat 55, Char.ofNat 102, Char.ofNat 99, Char.ofNat 50, Char.ofNat 32, Char.ofNat 99, Char.ofNat 117, Char.ofNat 116, Char.ofNat 32, Char.ofNat 97, Char.ofNat 116, Char.ofNat 32, Char.ofNat 97, Char.ofNat 98, Char.ofNat 117, Char.ofNat 116, Char.ofNat 109, Char.ofNat 101, Char.ofNat 110, Char.ofNat 116, Char.ofNat 47, Char.ofNat 97, Char.ofNat 98, Char.ofNat 117, Char.ofNat 116, Char.ofNat 109, Char.ofNat 101, Char.ofNat 110, Char.ofNat 116, Char.ofNat 108, Char.ofNat 97, Char.ofNat 119, Char.ofNat 49, Char.ofNat 56, Char.ofNat 46, Char.ofNat 76, Char.ofNat 101, Char.ofNat 110, Char.ofNat 103, Char.ofNat 116, Char.ofNat 104, Char.ofNat 79, Char.ofNat 102, Char.ofNat 32, Char.ofNat 97, Char.ofNat 98, Char.ofNat 117, Char.ofNat 116, Char.ofNat 109, Char.ofNat 101, Char.ofNat 110, Char.ofNat 116, Char.ofNat 47, Char.ofNat 97, Char.ofNat 98, Char.ofNat 117, Char.ofNat 116, Char.ofNat 109, Char.ofNat 101, Char.ofNat 110, Char.ofNat 116, Char.ofNat 108, Char.ofNat 97, Char.ofNat 119, Char.ofNat 49, Char.ofNat 56, Char.ofNat 46, Char.ofNat 76, Char.ofNat 101, Char.ofNat 110, Char.ofNat 103, Char.ofNat 116, Char.ofNat 104, Char.ofNat 83, Char.ofNat 101, Char.ofNat 116, Char.ofNat 32, Char.ofNat 97, Char.ofNat 98, Char.ofNat 117, Char.ofNat 116, Char.ofNat 109, Char.ofNat 101, Char.ofNat 110, Char.ofNat 116, Char.ofNat 47, Char.ofNat 97, Char.ofNat 98, Char.ofNat 117, Char.ofNat 116, Char.ofNat 109, Char.ofNat 101, Char.ofNat 110, Char.ofNat 116, Char.ofNat 108, Char.ofNat 97, Char.ofNat 119, Char.ofNat 52, Char.ofNat 53, Char.ofNat 46, Char.ofNat 83, Char.ofNat 99, Char.ofNat 114, Char.ofNat 105, Char.ofNat 112, Char.ofNat 116, Char.ofNat 81, Char.ofNat 117, Char.ofNat 111, Char.ofNat 116, Char.ofNat 101, Char.ofNat 115] := by kernel_rfl
  rw [e, String.toList_ofList]
theorem strip (rest : List (List Char)) : stripLifts liftWords ("cut".toList :: rest) = ([], "cut".toList :: rest) := by kernel_rfl
theorem mayOf {P : Program} {rest : List (List Char)} (h : behindMainWord (wordsSigns P.initOrder.toList) = "cut".toList :: rest) (a : P.laysLater = false) (b : P.bearsReflect = false) (d : P.doorFits [] = true) : P.mayEnter = true := by
  have e1 : ("cut".toList == "gc".toList) = false := by kernel_rfl
  have e2 : ("cut".toList == "spec".toList) = false := by kernel_rfl
  have e3 : ("cut".toList == "carried".toList) = false := by kernel_rfl
  have e4 : (some "cut".toList == some "cut".toList) = true := by kernel_rfl
  unfold Program.mayEnter
  rw [h]
  show ((("cut".toList == "gc".toList) || ("cut".toList == "spec".toList)) && _ || _ || _) = true
  rw [e1, e2, e3, strip]
  simp only [a, b, d, List.head?_cons, e4, Bool.or_false, Bool.false_and, Bool.not_false, Bool.or_true, Bool.and_true, List.contains_nil]
theorem headOf {P : Program} {rest : List (List Char)} (h : behindMainWord (wordsSigns P.initOrder.toList) = "cut".toList :: rest) : P.headLifts = [] := by
  unfold Program.headLifts
  rw [h, strip]
  exact ite_self _
theorem finalOf {P : Program} {rest : List (List Char)} (h : behindMainWord (wordsSigns P.initOrder.toList) = "cut".toList :: rest) : P.liftsFinal = false := by
  have e3 : (some "cut".toList == some "carried".toList) = false := by kernel_rfl
  unfold Program.liftsFinal
  rw [headOf h, h]
  simp only [List.head?_cons, e3, Bool.false_and, Bool.false_or, List.contains_nil]
theorem makeOf {P : Program} {rest : List (List Char)} (h : behindMainWord (wordsSigns P.initOrder.toList) = "cut".toList :: rest) : P.make = some .cut := by
  have e1 : ("cut".toList == "gc".toList) = false := by kernel_rfl
  have e2 : ("cut".toList == "spec".toList) = false := by kernel_rfl
  have e4 : ("cut".toList == "cut".toList) = true := by kernel_rfl
  unfold Program.make
  rw [h]
  simp only [e1, e2, e4, Bool.or_false, Bool.true_or, if_true, Bool.false_eq_true, if_false]
theorem words : ∃ rest, behindMainWord (wordsSigns Tryd.pinned.checked.prog.initOrder.toList) = "cut".toList :: rest := by
  rw [init]
  exact ⟨(behindMainWord (wordsSigns [Char.ofNat 104, Char.ofNat 97, Char.ofNat 114, Char.ofNat 110, Char.ofNat 101, Char.ofNat 115, Char.ofNat 115, Char.ofNat 32, Char.ofNat 55, Char.ofNat 98, Char.ofNat 100, Char.ofNat 56, Char.ofNat 57, Char.ofNat 48, Char.ofNat 55, Char.ofNat 55, Char.ofNat 97, Char.ofNat 53, Char.ofNat 56, Char.ofNat 50, Char.ofNat 101, Char.ofNat 48, Char.ofNat 56, Char.ofNat 50, Char.ofNat 57, Char.ofNat 48, Char.ofNat 101, Char.ofNat 100, Char.ofNat 55, Char.ofNat 99, Char.ofNat 55, Char.ofNat 99, Char.ofNat 98, Char.ofNat 101, Char.ofNat 53, Char.ofNat 53, Char.ofNat 101, Char.ofNat 49, Char.ofNat 101, Char.ofNat 56, Char.ofNat 51, Char.ofNat 49, Char.ofNat 97, Char.ofNat 49, Char.ofNat 50, Char.ofNat 99, Char.ofNat 52, Char.ofNat 101, Char.ofNat 49, Char.ofNat 49, Char.ofNat 50, Char.ofNat 54, Char.ofNat 99, Char.ofNat 55, Char.ofNat 53, Char.ofNat 48, Char.ofNat 54, Char.ofNat 56, Char.ofNat 100, Char.ofNat 48, Char.ofNat 55, Char.ofNat 100, Char.ofNat 53, Char.ofNat 98, Char.ofNat 49, Char.ofNat 57, Char.ofNat 98, Char.ofNat 51, Char.ofNat 55, Char.ofNat 102, Char.ofNat 99, Char.ofNat 50, Char.ofNat 32, Char.ofNat 99, Char.ofNat 117, Char.ofNat 116, Char.ofNat 32, Char.ofNat 97, Char.ofNat 116, Char.ofNat 32, Char.ofNat 97, Char.ofNat 98, Char.ofNat 117, Char.ofNat 116, Char.ofNat 109, Char.ofNat 101, Char.ofNat 110, Char.ofNat 116, Char.ofNat 47, Char.ofNat 97, Char.ofNat 98, Char.ofNat 117, Char.ofNat 116, Char.ofNat 109, Char.ofNat 101, Char.ofNat 110, Char.ofNat 116, Char.ofNat 108, Char.ofNat 97, Char.ofNat 119, Char.ofNat 49, Char.ofNat 56, Char.ofNat 46, Char.ofNat 76, Char.ofNat 101, Char.ofNat 110, Char.ofNat 103, Char.ofNat 116, Char.ofNat 104, Char.ofNat 79, Char.ofNat 102, Char.ofNat 32, Char.ofNat 97, Char.ofNat 98, Char.ofNat 117, Char.ofNat 116, Char.ofNat 109, Char.ofNat 101, Char.ofNat 110, Char.ofNat 116, Char.ofNat 47, Char.ofNat 97, Char.ofNat 98, Char.ofNat 117, Char.ofNat 116, Char.ofNat 109, Char.ofNat 101, Char.ofNat 110, Char.ofNat 116, Char.ofNat 108, Char.ofNat 97, Char.ofNat 119, Char.ofNat 49, Char.ofNat 56, Char.ofNat 46, Char.ofNat 76, Char.ofNat 101, Char.ofNat 110, Char.ofNat 103, Char.ofNat 116, Char.ofNat 104, Char.ofNat 83, Char.ofNat 101, Char.ofNat 116, Char.ofNat 32, Char.ofNat 97, Char.ofNat 98, Char.ofNat 117, Char.ofNat 116, Char.ofNat 109, Char.ofNat 101, Char.ofNat 110, Char.ofNat 116, Char.ofNat 47, Char.ofNat 97, Char.ofNat 98, Char.ofNat 117, Char.ofNat 116, Char.ofNat 109, Char.ofNat 101, Char.ofNat 110, Char.ofNat 116, Char.ofNat 108, Char.ofNat 97, Char.ofNat 119, Char.ofNat 52, Char.ofNat 53, Char.ofNat 46, Char.ofNat 83, Char.ofNat 99, Char.ofNat 114, Char.ofNat 105, Char.ofNat 112, Char.ofNat 116, Char.ofNat 81, Char.ofNat 117, Char.ofNat 111, Char.ofNat 116, Char.ofNat 101, Char.ofNat 115])).tail, by kernel_rfl⟩
theorem lays : Tryd.pinned.checked.prog.laysLater = false := by kernel_rfl
theorem bears : Tryd.pinned.checked.prog.bearsReflect = false := by kernel_rfl
theorem door : Tryd.pinned.checked.prog.doorFits [] = true := by kernel_rfl
theorem mayEnter : Tryd.pinned.checked.prog.mayEnter = true := by obtain ⟨r, h⟩ := words; exact mayOf h lays bears door
theorem liftsFinal : Tryd.pinned.checked.prog.liftsFinal = false := by obtain ⟨r, h⟩ := words; exact finalOf h
theorem make : Tryd.pinned.checked.prog.make = some .cut := by obtain ⟨r, h⟩ := words; exact makeOf h
theorem laidOut : laidOutB Tryd.pinned.checked.prog = true := by kernel_rfl
theorem mapsR : mapsRowed Tryd.pinned.checked.prog = true := by kernel_rfl
theorem stops : (Tryd.pinned.checked.prog.stops == []) = true := by kernel_rfl
theorem stopKnobs : (Tryd.pinned.checked.prog.stopKnobs == []) = true := by kernel_rfl
theorem stopsHeard : Tryd.pinned.checked.prog.stopsHeard = true := by kernel_rfl
end Go.Proofs.YtoegojolimaodaaDoor.Facts
end
section
set_option linter.unusedVariables false
set_option linter.unusedSimpArgs false
namespace Go.Mdl
open Go Go.Abs
theorem trim_parts (s : List UInt8) : ∃ a b, s = a ++ (trimS s ++ b) ∧ a.all blankB = true ∧ b.all blankB = true := by
  refine ⟨s.takeWhile blankB, ((trimL s).reverse.takeWhile blankB).reverse, ?_, List.all_takeWhile, by rw [List.all_reverse]; exact List.all_takeWhile⟩
  have h1 : trimL s = trimR (trimL s) ++ ((trimL s).reverse.takeWhile blankB).reverse := by
    have := List.takeWhile_append_dropWhile (p := blankB) (l := (trimL s).reverse)
    have := congrArg List.reverse this
    rw [List.reverse_append, List.reverse_reverse] at this
    exact this.symm
  have h2 : s = s.takeWhile blankB ++ trimL s := List.takeWhile_append_dropWhile.symm
  conv => lhs; rw [h2, h1]
  rfl
end Go.Mdl
namespace Go.Proofs.Tryd.Lists
open Go Go.Abs Go.Proofs Go.Mdl
end Go.Proofs.Tryd.Lists
end
section
set_option linter.unusedVariables false
set_option linter.unusedSimpArgs false
namespace Go.Mdl
open Go Go.Abs
def isN (names : List (List UInt8)) (f : Fld) : Bool := names.any fun n => foldS n f.1
def allS (l : List Fld) (name : List UInt8) : List (List UInt8) := (l.filter (isN [name])).map (·.2)
def withoutS (l : List Fld) (names : List (List UInt8)) : List Fld := l.filter fun f => !isN names f
def withS (l : List Fld) (n v : List UInt8) : List Fld := l ++ [(n, v)]
theorem isN_one (n : List UInt8) (f : Fld) : isN [n] f = foldS n f.1 := by simp [isN]
theorem allS_take_succ {l : List Fld} {k : Nat} (n : List UInt8) (h : k < l.length) : allS (l.take (k + 1)) n = allS (l.take k) n ++ if isN [n] (l.getD k ([], [])) = true then [(l.getD k ([], [])).2] else [] := by
  rw [take_succ_getD ([], []) h]
  simp only [allS, List.filter_append, List.map_append]
  congr 1
  by_cases hh : isN [n] (l.getD k ([], [])) = true
  · rw [if_pos hh, List.filter_cons_of_pos hh]; rfl
  · rw [if_neg hh, List.filter_cons_of_neg hh]; rfl
theorem allS_len (l : List Fld) (n : List UInt8) : (allS l n).length ≤ l.length := by
  have := List.length_filter_le (isN [n]) l
  simpa [allS] using this
theorem allS_mem {l : List Fld} {n e : List UInt8} (h : e ∈ allS l n) : ∃ f ∈ l, e = f.2 ∧ isN [n] f = true := by
  simp only [allS, List.mem_map, List.mem_filter] at h
  obtain ⟨f, ⟨h1, h2⟩, rfl⟩ := h
  exact ⟨f, h1, rfl, h2⟩
theorem isN_take_succ {names : List (List UInt8)} {k : Nat} (f : Fld) (h : k < names.length) : isN (names.take (k + 1)) f = (isN (names.take k) f || foldS (names.getD k []) f.1) := by
  rw [take_succ_getD [] h]; simp [isN]
theorem without_take_succ {l : List Fld} {k : Nat} (names : List (List UInt8)) (h : k < l.length) : withoutS (l.take (k + 1)) names = withoutS (l.take k) names ++ if isN names (l.getD k ([], [])) = true then [] else [l.getD k ([], [])] := by
  rw [take_succ_getD ([], []) h]
  simp only [withoutS, List.filter_append]
  congr 1
  by_cases hh : isN names (l.getD k ([], [])) = true
  · rw [if_pos hh, List.filter_cons_of_neg (by rw [hh]; simp)]; rfl
  · rw [if_neg hh, List.filter_cons_of_pos (by simpa using hh)]; rfl
theorem without_len (l : List Fld) (names : List (List UInt8)) : (withoutS l names).length ≤ l.length := List.length_filter_le _ _
end Go.Mdl
end
section
set_option linter.unusedVariables false
set_option linter.unusedSimpArgs false
namespace Go.Mdl
open Go Go.Abs
def lenMax : Int := 2147483647
def lenBad (f : Int) (p : List UInt8) : Bool := !decide (numErr 10 lenMax p = 0) || (decide (0 ≤ f) && !decide (numVal 10 lenMax p = f))
def lenNext (f : Int) (p : List UInt8) : Int := if lenBad f p = true then f else numVal 10 lenMax p
def lenB : Int → List (List UInt8) → Bool
  | _, [] => false
  | f, p :: r => lenBad f p || lenB (lenNext f p) r
def lenF : Int → List (List UInt8) → Int
  | f, [] => f
  | f, p :: r => if lenBad f p = true then f else lenF (lenNext f p) r
def lenParts (s : List UInt8) : List (List UInt8) := (splitB 44 s).map trimS
def lenAll (vs : List (List UInt8)) : List (List UInt8) := vs.flatMap lenParts
def lsS : Bool → LoopState
  | true => .done
  | false => .ready
def lsP : Bool → Option Code
  | true => some .ret
  | false => none
theorem lsS_f : lsS false = .ready := rfl
theorem lsP_f : lsP false = none := rfl
theorem lsS_t : lsS true = .done := rfl
theorem lsP_t : lsP true = some .ret := rfl
def lenE (b : Bool) : Int := if b = true then 14 else 0
theorem lenE_f : lenE false = 0 := rfl
theorem lenE_t : lenE true = 14 := rfl
theorem lenB_append : ∀ (f : Int) (a b : List (List UInt8)), lenB f (a ++ b) = (lenB f a || lenB (lenF f a) b)
  | f, [], b => by simp [lenB, lenF]
  | f, p :: a, b => by
    simp only [List.cons_append, lenB, lenF, lenB_append (lenNext f p) a b]
    cases h : lenBad f p <;> simp
theorem lenF_append : ∀ (f : Int) (a b : List (List UInt8)), lenF f (a ++ b) = if lenB f a = true then lenF f a else lenF (lenF f a) b
  | f, [], b => by simp [lenB, lenF]
  | f, p :: a, b => by
    simp only [List.cons_append, lenB, lenF, lenF_append (lenNext f p) a b]
    by_cases h : lenBad f p = true
    · simp [h]
    · rw [Bool.not_eq_true] at h
      simp [h]
theorem lenNext_bad {f : Int} {p : List UInt8} (h : lenBad f p = true) : lenNext f p = f := by rw [lenNext, if_pos h]
theorem lenNext_good {f : Int} {p : List UInt8} (h : lenBad f p = false) : lenNext f p = numVal 10 lenMax p := by rw [lenNext, if_neg (by rw [h]; decide)]
def lenRest : Nat → Int → List UInt8 → List UInt8
  | 0, _, r => r
  | n + 1, f, r => if upTo 44 r < r.length then (if lenBad f (trimS (r.take (upTo 44 r))) = true then r else lenRest n (lenNext f (trimS (r.take (upTo 44 r)))) (r.drop (upTo 44 r + 1))) else r
theorem lenParts_first {s : List UInt8} (h : upTo 44 s < s.length) : lenParts s = trimS (s.take (upTo 44 s)) :: lenParts (s.drop (upTo 44 s + 1)) := by
  rw [lenParts, splitB_first h]; rfl
theorem lenParts_last {s : List UInt8} (h : ¬ upTo 44 s < s.length) : lenParts s = [trimS s] := by
  rw [lenParts, splitB_last h]; rfl
theorem lenRest_last {n : Nat} {f : Int} {r : List UInt8} (h : ¬ upTo 44 r < r.length) : lenRest n f r = r := by
  cases n with
  | zero => rfl
  | succ n => rw [lenRest, if_neg h]
theorem lenRest_bad {n : Nat} {f : Int} {r : List UInt8} (h : upTo 44 r < r.length) (hb : lenBad f (trimS (r.take (upTo 44 r))) = true) : lenRest n f r = r := by
  cases n with
  | zero => rfl
  | succ n => rw [lenRest, if_pos h, if_pos hb]
theorem lenRest_next {n : Nat} {f : Int} {r : List UInt8} (h : upTo 44 r < r.length) (hb : lenBad f (trimS (r.take (upTo 44 r))) = false) : lenRest (n + 1) f r = lenRest n (lenNext f (trimS (r.take (upTo 44 r)))) (r.drop (upTo 44 r + 1)) := by
  rw [lenRest, if_pos h, if_neg (by rw [hb]; decide)]
theorem lenNext_range {f : Int} {p : List UInt8} (h : -1 ≤ f ∧ f ≤ lenMax) : -1 ≤ lenNext f p ∧ lenNext f p ≤ lenMax := by
  unfold lenNext
  split
  · exact h
  · rename_i hb
    simp only [lenBad, Bool.not_eq_true, Bool.or_eq_false_iff, Bool.not_eq_false', decide_eq_true_eq] at hb
    have he := hb.1
    have hv : numVal 10 lenMax p = numV 10 p := by simp only [numVal, if_pos he]
    have h0 : p.all (isDig 10) = true ∧ numV 10 p ≤ lenMax := by
      unfold numErr at he
      split at he
      · cases he
      · split at he
        · rename_i h1
          split at he
          · cases he
          · exact ⟨h1, by omega⟩
        · cases he
    have := numV_nonneg (b := 10) (by decide) p h0.1
    rw [hv]; omega
theorem lenF_range : ∀ {f : Int} (l : List (List UInt8)), -1 ≤ f ∧ f ≤ lenMax → -1 ≤ lenF f l ∧ lenF f l ≤ lenMax
  | f, [], h => h
  | f, p :: r, h => by
    simp only [lenF]
    split
    · exact h
    · exact lenF_range r (lenNext_range h)
theorem lenAll_take (vs : List (List UInt8)) (j : Nat) : lenAll vs = lenAll (vs.take j) ++ lenAll (vs.drop j) := by
  rw [lenAll, lenAll, lenAll, ← List.flatMap_append, List.take_append_drop]
theorem lenB_pre {f : Int} {a b : List (List UInt8)} (h : lenB f a = true) : lenB f (a ++ b) = true ∧ lenF f (a ++ b) = lenF f a := by
  rw [lenB_append, lenF_append, if_pos h, h]; exact ⟨rfl, rfl⟩
theorem lenB_post {f : Int} {a b : List (List UInt8)} (h : lenB f a = false) : lenB f (a ++ b) = lenB (lenF f a) b ∧ lenF f (a ++ b) = lenF (lenF f a) b := by
  rw [lenB_append, lenF_append, if_neg (by rw [h]; decide), h]; exact ⟨rfl, rfl⟩
theorem lenNext_pos {f : Int} {p : List UInt8} (h : lenBad f p = false) : 0 ≤ lenNext f p := by
  rw [lenNext_good h]
  simp only [lenBad, Bool.or_eq_false_iff, Bool.not_eq_false', decide_eq_true_eq] at h
  have he := h.1
  have hv : numVal 10 lenMax p = numV 10 p := by simp only [numVal, if_pos he]
  have h0 : p.all (isDig 10) = true := by
    unfold numErr at he
    split at he
    · cases he
    · split at he
      · assumption
      · cases he
  have := numV_nonneg (b := 10) (by decide) p h0
  rw [hv]; omega
theorem lenF_pos : ∀ (f : Int) (l : List (List UInt8)), l ≠ [] → lenB f l = false → 0 ≤ lenF f l
  | f, [], h, _ => absurd rfl h
  | f, [p], _, h => by
    simp only [lenB, Bool.or_false] at h
    simp only [lenF, if_neg (show ¬ lenBad f p = true by rw [h]; decide)]
    exact lenNext_pos h
  | f, p :: q :: r, _, h => by
    simp only [lenB, Bool.or_eq_false_iff] at h
    rw [lenF, if_neg (by rw [h.1]; decide)]
    exact lenF_pos _ (q :: r) (by simp) (by simp only [lenB, Bool.or_eq_false_iff]; exact h.2)
def lenCL : List UInt8 := [67, 111, 110, 116, 101, 110, 116, 45, 76, 101, 110, 103, 116, 104]
def lenVs (l : List (List UInt8 × List UInt8)) : List (List UInt8) := allS l lenCL
def lenWrong (l : List (List UInt8 × List UInt8)) : Bool := lenB (-1) (lenAll (lenVs l))
def lenNum (l : List (List UInt8 × List UInt8)) : Int := lenF (-1) (lenAll (lenVs l))
def lenN (l : List (List UInt8 × List UInt8)) : Int := if lenWrong l = true then 0 else max (lenNum l) 0
def lenHas (l : List (List UInt8 × List UInt8)) : Bool := !lenWrong l && decide (0 ≤ lenNum l)
def lenErr (l : List (List UInt8 × List UInt8)) : Int := if lenWrong l = true then 14 else 0
def lenSet (l : List (List UInt8 × List UInt8)) (n : Int) : List (List UInt8 × List UInt8) := withoutS l [lenCL] ++ [(lenCL, textI n)]
end Go.Mdl
end
section
set_option linter.unusedVariables false
set_option linter.unusedSimpArgs false
namespace Go.Proofs.Tryd.Hdr
open Go Go.Abs Go.Proofs Go.Mdl
def T_specNamed : Tbl := fun g E args => nilT g E args
theorem T_specNamed_ok : TblOK Tryd.prog T_specNamed := nilT_ok
set_option maxRecDepth 100000 in
set_option maxHeartbeats 4000000 in
theorem specNamed (names : List (List UInt8)) : SpecE Tryd.prog 47 [] [enc_strs names] [.cells 1 false .nils [enc_strs names]] (.clo 67 0 [.ptr 0 0 0 1]) := by
  refine specFE (C := T_specNamed) (wr := false) (D := fun _ => []) (U := fun _ => none) (E := []) (E' := [.cells 1 false .nils [enc_strs names]]) (res := [.clo 67 0 [.ptr 0 0 0 1]]) [32] Tryd.Ty.mixed T_specNamed_ok Tryd.func47 (args := [enc_strs names]) (nE := 0) (nA := 1) (by decide +kernel) rfl rfl ?_
  simp only [Tryd.f47, bodyOf, rlOf]
  rw [W_V]
  simp (config := {maxSteps := 2000000}) only [T_specNamed, go_sem, seval]
  (try simp (config := {maxSteps := 2000000}) only [gimp, impB, isT, go_sem, seval])
def tb_specNamed : List Blk → List AV → Option (List Blk × AV × Prop)
  | [], [a0] => some ([.cells 1 false .nils [enc_strs (dec_strs a0)]], .clo 67 0 [.ptr 0 0 0 1], argOK a0 (enc_strs (dec_strs a0)))
  | _, _ => none
theorem tb_specNamed_ok : ∀ E args E' res p, tb_specNamed E args = some (E', res, p) → p → SpecE Tryd.prog 47 E args E' res := by
  intro E args E' res p h hp
  unfold tb_specNamed at h
  split at h
  · simp only [Option.some.injEq, Prod.mk.injEq] at h
    obtain ⟨rfl, rfl, rfl⟩ := h
    exact SpecE.args (specNamed _) (.cons hp .nil)
  · cases h
def T_specNamedN : Tbl := fun g E args => (addT nilT 70 Go.Proofs.Tryd.Oct.tb_specFold) g E args
theorem T_specNamedN_ok : TblOK Tryd.prog T_specNamedN := (addT_ok nilT_ok (by decide +kernel) Go.Proofs.Tryd.Oct.tb_specFold_ok)
set_option maxRecDepth 100000 in
set_option maxHeartbeats 4000000 in
theorem specNamedN (n a b : List UInt8) (hn : n.length ≤ maxLen) : SpecE Tryd.prog 69 [.cells 2 false (.agg [.str [], .str []]) [.agg [.str a, .str b]]] [.str n, .ptr 0 0 0 1] [.cells 2 false (.agg [.str [], .str []]) [.agg [.str a, .str b]]] (.bool (foldS n a)) := by
  refine specFE (C := T_specNamedN) (wr := false) (D := fun _ => []) (U := fun _ => none) (E := [.cells 2 false (.agg [.str [], .str []]) [.agg [.str a, .str b]]]) (E' := [.cells 2 false (.agg [.str [], .str []]) [.agg [.str a, .str b]]]) (res := [.bool (foldS n a)]) [] Tryd.Ty.mixed T_specNamedN_ok Tryd.func69 (args := [.str n, .ptr 0 0 0 1]) (nE := 1) (nA := 2) (by decide +kernel) rfl rfl ?_
  simp only [Tryd.f69, bodyOf, rlOf]
  rw [W_V]
  simp (config := {maxSteps := 2000000}) only [T_specNamedN, Go.Proofs.Tryd.Oct.tb_specFold, go_sem, seval]
  (try simp (config := {maxSteps := 2000000}) only [gimp, impB, isT, go_sem, seval])
  exact hn
set_option maxRecDepth 100000 in
set_option maxHeartbeats 4000000 in
theorem specNamedHas (names : List (List UInt8)) (a b : List UInt8) (hl : names.length ≤ maxLen) (hq : ∀ x ∈ names, x.length ≤ maxLen) : SpecE Tryd.prog 68 [.cells 2 false (.agg [.str [], .str []]) [.agg [.str a, .str b]]] [enc_strs names, .clo 69 0 [.ptr 0 0 0 1]] [.cells 2 false (.agg [.str [], .str []]) [.agg [.str a, .str b]]] (.bool (isN names (a, b))) := by
  exact Slc.has_S (by decide) (boxFld (a, b)) (fun _ => rfl) (q := fun x => x.length ≤ maxLen) (fun x hx => specNamedN x a b hx) names hq hl
def tb_specNamedHas : List Blk → List AV → Option (List Blk × AV × Prop)
  | [.cells 2 false d [.agg [.str a, .str b]]], [a0, .clo 69 0 [.ptr 0 0 0 1]] => some ([.cells 2 false (.agg [.str [], .str []]) [.agg [.str a, .str b]]], .bool (isN (dec_strs a0) (a, b)), (d = .agg [.str [], .str []]) ∧ ((dec_strs a0).length ≤ maxLen) ∧ (∀ x ∈ (dec_strs a0), x.length ≤ maxLen) ∧ argOK a0 (enc_strs (dec_strs a0)))
  | _, _ => none
theorem tb_specNamedHas_ok : ∀ E args E' res p, tb_specNamedHas E args = some (E', res, p) → p → SpecE Tryd.prog 68 E args E' res := by
  intro E args E' res p h hp
  unfold tb_specNamedHas at h
  split at h
  · simp only [Option.some.injEq, Prod.mk.injEq] at h
    obtain ⟨rfl, rfl, rfl⟩ := h
    obtain ⟨rfl, hp⟩ := hp
    exact SpecE.args (specNamedHas _ _ _ hp.1 hp.2.1) (.cons hp.2.2 (.cons (argOK.refl _) .nil))
  · cases h
def T_specNamedF : Tbl := fun g E args => (addT nilT 68 Go.Proofs.Tryd.Hdr.tb_specNamedHas) g E args
theorem T_specNamedF_ok : TblOK Tryd.prog T_specNamedF := (addT_ok nilT_ok (by decide +kernel) Go.Proofs.Tryd.Hdr.tb_specNamedHas_ok)
set_option maxRecDepth 100000 in
set_option maxHeartbeats 4000000 in
theorem specNamedF (names : List (List UInt8)) (a b : List UInt8) (hl : names.length ≤ maxLen) (hq : ∀ x ∈ names, x.length ≤ maxLen) : SpecE Tryd.prog 67 [.cells 1 false .nils [enc_strs names]] [.agg [.str a, .str b], .ptr 0 0 0 1] [.cells 1 false .nils [enc_strs names]] (.bool (isN names (a, b))) := by
  refine specFE (C := T_specNamedF) (wr := false) (D := fun _ => []) (U := fun _ => none) (E := [.cells 1 false .nils [enc_strs names]]) (E' := [.cells 1 false .nils [enc_strs names]]) (res := [.bool (isN names (a, b))]) [] Tryd.Ty.mixed T_specNamedF_ok Tryd.func67 (args := [.agg [.str a, .str b], .ptr 0 0 0 1]) (nE := 1) (nA := 2) (by decide +kernel) rfl rfl ?_
  simp only [Tryd.f67, bodyOf, rlOf]
  rw [W_V]
  simp (config := {maxSteps := 2000000}) only [T_specNamedF, Go.Proofs.Tryd.Hdr.tb_specNamedHas, go_sem, seval]
  (try simp (config := {maxSteps := 2000000}) only [gimp, impB, isT, go_sem, seval])
  exact ⟨hl, hq⟩
def tb_specNamedF : List Blk → List AV → Option (List Blk × AV × Prop)
  | [.cells 1 false d [b0_0]], [.agg [.str a, .str b], .ptr 0 0 0 1] => some ([.cells 1 false .nils [enc_strs (dec_strs b0_0)]], .bool (isN (dec_strs b0_0) (a, b)), (d = .nils) ∧ ((dec_strs b0_0).length ≤ maxLen) ∧ (∀ x ∈ (dec_strs b0_0), x.length ≤ maxLen) ∧ b0_0 = enc_strs (dec_strs b0_0))
  | _, _ => none
theorem tb_specNamedF_ok : ∀ E args E' res p, tb_specNamedF E args = some (E', res, p) → p → SpecE Tryd.prog 67 E args E' res := by
  intro E args E' res p h hp
  unfold tb_specNamedF at h
  split at h
  · rename_i d b0_0 a b
    simp only [Option.some.injEq, Prod.mk.injEq] at h
    obtain ⟨rfl, rfl, rfl⟩ := h
    obtain ⟨rfl, hh0, hh1, hb0⟩ := hp
    generalize dec_strs b0_0 = b0_0_x at *
    subst hb0
    exact (specNamedF _ _ _ hh0 hh1)
  · cases h
def T_specAll : Tbl := fun g E args => (addT (addT nilT 47 Go.Proofs.Tryd.Hdr.tb_specNamed) 67 Go.Proofs.Tryd.Hdr.tb_specNamedF) g E args
theorem T_specAll_ok : TblOK Tryd.prog T_specAll := (addT_ok (addT_ok nilT_ok (by decide +kernel) Go.Proofs.Tryd.Hdr.tb_specNamed_ok) (by decide +kernel) Go.Proofs.Tryd.Hdr.tb_specNamedF_ok)
set_option maxRecDepth 100000 in
set_option maxHeartbeats 4000000 in
theorem specAll (l : List Fld) (name : List UInt8) (hl : l.length ≤ 1000) (hn : name.length ≤ maxLen) : SpecE Tryd.prog 19 [] [enc_flds l, .str name] [] (enc_strs (allS l name)) := by
  refine specF0 (C := T_specAll) (wr := false) (D := fun _ => []) (U := fun _ => none) (res := [enc_strs (allS l name)]) Tryd.Ty.mixed T_specAll_ok Tryd.func19 (nA := 2) (by decide +kernel) rfl (fun _ => rfl) ?_
  simp only [Tryd.f19, bodyOf, rlOf]
  rw [W_V]
  simp (config := {maxSteps := 2000000}) only [T_specAll, Go.Proofs.Tryd.Hdr.tb_specNamed, Go.Proofs.Tryd.Hdr.tb_specNamedF, go_sem, seval]
  (try simp (config := {maxSteps := 2000000}) only [gimp, impB, isT, go_sem, seval])
  refine VL_inv (X := Nat) (fun k => ⟨[(5, .clo 67 0 [.ptr 192 0 0 1]), (6, .ref 416 0 (allS (l.take k) name).length (allS (l.take k) name).length), (12, enc_flds l), (13, .int .i64 l.length), (14, .int .i64 k)], [(192, .cells 1 false .nils [enc_strs [name]]), (416, .cells 1 false (.str []) ((allS (l.take k) name).map .str))]⟩) (fun k => k ≤ l.length) (fun k => l.length - k) 0 ?_ ?_ ?_
  · simp only [allS, List.take_zero, List.filter_nil, go_sem, go_sem, seval]
    try rfl
  · exact Nat.zero_le _
  rintro k hk
  simp (config := {maxSteps := 2000000}) only [T_specAll, Go.Proofs.Tryd.Hdr.tb_specNamed, Go.Proofs.Tryd.Hdr.tb_specNamedF, go_sem, seval]
  (try simp (config := {maxSteps := 2000000}) only [gimp, impB, isT, go_sem, seval])
  have hs := fun h : k < l.length => allS_take_succ (l := l) name h
  have hle := allS_len (l.take k) name
  have hlt' : (l.take k).length ≤ 1000 := by rw [List.length_take]; omega
  have hm : (1 : Nat) ≤ maxLen := by decide
  refine ⟨fun hlt => ⟨by omega, ⟨hm, hn⟩, fun hy => ⟨by omega, by omega, k + 1, ⟨⟨?_, by omega⟩, ?_⟩, by omega, by omega⟩, fun hno => ⟨by omega, k + 1, ⟨⟨?_, by omega⟩, ?_⟩, by omega, by omega⟩⟩, fun hge => ?_⟩
  · rw [hs (by omega), if_pos hy]; simp
  · rw [hs (by omega), if_pos hy]; simp
  · rw [hs (by omega), if_neg (by rw [show isN [name] (l.getD k ([], [])) = false from hno]; simp)]; simp
  · rw [hs (by omega), if_neg (by rw [show isN [name] (l.getD k ([], [])) = false from hno]; simp)]; simp
  · rw [List.take_length, List.take_of_length_le (by omega)]
def tb_specAll : List Blk → List AV → Option (List Blk × AV × Prop)
  | [], [a0, .str name] => some ([], enc_strs (allS (dec_flds a0) name), ((dec_flds a0).length ≤ 1000) ∧ (name.length ≤ maxLen) ∧ argOK a0 (enc_flds (dec_flds a0)))
  | _, _ => none
theorem tb_specAll_ok : ∀ E args E' res p, tb_specAll E args = some (E', res, p) → p → SpecE Tryd.prog 19 E args E' res := by
  intro E args E' res p h hp
  unfold tb_specAll at h
  split at h
  · simp only [Option.some.injEq, Prod.mk.injEq] at h
    obtain ⟨rfl, rfl, rfl⟩ := h
    exact SpecE.args (specAll _ _ hp.1 hp.2.1) (.cons hp.2.2 (.cons (argOK.refl _) .nil))
  · cases h
def T_specClone : Tbl := fun g E args => nilT g E args
theorem T_specClone_ok : TblOK Tryd.prog T_specClone := nilT_ok
set_option maxRecDepth 100000 in
set_option maxHeartbeats 4000000 in
theorem specClone (l : List Fld) (hl : l.length ≤ 1000000) : SpecE Tryd.prog 52 [] [enc_flds l] [.cells 2 false (.agg [.str [], .str []]) (l.map enc_fld)] (.ref 0 0 l.length l.length) := by
  refine specFE (C := T_specClone) (wr := false) (D := fun _ => []) (U := fun _ => none) (E := []) (E' := [.cells 2 false (.agg [.str [], .str []]) (l.map enc_fld)]) (res := [.ref 0 0 l.length l.length]) [96] Tryd.Ty.mixed T_specClone_ok Tryd.func52 (args := [enc_flds l]) (nE := 0) (nA := 1) (by decide +kernel) rfl rfl ?_
  simp only [Tryd.f52, bodyOf, rlOf]
  rw [W_V]
  simp (config := {maxSteps := 2000000}) only [T_specClone, go_sem, seval]
  (try simp (config := {maxSteps := 2000000}) only [gimp, impB, isT, go_sem, seval])
  refine ⟨fun h => ?_, by omega⟩
  have h0 : l = [] := by simpa using h
  subst h0
  simp
def tb_specClone : List Blk → List AV → Option (List Blk × AV × Prop)
  | [], [a0] => some ([.cells 2 false (.agg [.str [], .str []]) ((dec_flds a0).map enc_fld)], .ref 0 0 (dec_flds a0).length (dec_flds a0).length, ((dec_flds a0).length ≤ 1000000) ∧ argOK a0 (enc_flds (dec_flds a0)))
  | _, _ => none
theorem tb_specClone_ok : ∀ E args E' res p, tb_specClone E args = some (E', res, p) → p → SpecE Tryd.prog 52 E args E' res := by
  intro E args E' res p h hp
  unfold tb_specClone at h
  split at h
  · simp only [Option.some.injEq, Prod.mk.injEq] at h
    obtain ⟨rfl, rfl, rfl⟩ := h
    exact SpecE.args (specClone _ hp.1) (.cons hp.2 .nil)
  · cases h
set_option maxRecDepth 100000 in
set_option maxHeartbeats 4000000 in
theorem specDel (names : List (List UInt8)) (l : List Fld) (m1 m2 : Nat) (hl : names.length ≤ maxLen) (hq : ∀ x ∈ names, x.length ≤ maxLen) (hll : l.length ≤ 1000000) (h1 : m1 = l.length) (h2 : m2 = l.length) : SpecE Tryd.prog 51 [.cells 2 false (.agg [.str [], .str []]) (l.map enc_fld), .cells 1 false .nils [enc_strs names]] [.ref 0 0 m1 m2, .clo 67 0 [.ptr 1 0 0 1]] [.cells 2 false (.agg [.str [], .str []]) ((delP ([], []) (isN names) l).map enc_fld), .cells 1 false .nils [enc_strs names]] (.ref 0 0 (withoutS l names).length m2) := by
  subst h1; subst h2; exact Slc.del_F (by decide) (boxList 1 _) (fun _ => rfl) (q := fun _ => True) (fun x _ => specNamedF names x.1 x.2 hl hq) l (fun _ _ => trivial) hll
end Go.Proofs.Tryd.Hdr
end
section
set_option linter.unusedVariables false
set_option linter.unusedSimpArgs false
namespace Go.Proofs.Tryd.Len
open Go Go.Abs Go.Proofs Go.Mdl
noncomputable def lcO : LoopC := lcOf Tryd.f8 34
noncomputable def recO (b : Bool) : Blk := .loop lcO (lsS b) (lsP b) [(11, .clo 44 0 [.ptr 1 0 0 1]), (2, .ptr 2 0 0 1), (3, .ptr 3 0 0 1), (4, .ptr 4 0 0 1), (5, .ptr 5 0 0 1)]
def intB (n : Int) : Blk := .cells 1 false (.int .i64 0) [.int .i64 n]
def boolB (b : Bool) : Blk := .cells 1 false (.bool false) [.bool b]
def valsB (vs : List (List UInt8)) : Blk := .cells 1 false .nils [enc_strs vs]
def T_yldO0 : Tbl := addT nilT 20 Dig.tb_specDec
theorem T_yldO0_ok : TblOK Tryd.prog T_yldO0 := addT_ok nilT_ok (by decide +kernel) Dig.tb_specDec_ok
set_option maxRecDepth 100000 in
set_option maxHeartbeats 4000000 in
theorem yldO (vs : List (List UInt8)) (p : List UInt8) (f : Int) (hf : -1 ≤ f ∧ f ≤ 2147483647) :
    SpecE Tryd.prog yldF (recO false :: [valsB vs, intB 0, boolB false, intB 0, intB f]) (.yld 0 :: [.str p])
      [recO (lenBad f p), valsB vs, intB 0, boolB false, intB (lenE (lenBad f p)), intB (lenNext f p)] (.bool (!lenBad f p)) := by
  refine specY (C := T_yldO0) (wr := false) (D := fun i => if i = dN then [34] else []) (U := fun _ => none) (nE := 6) [] Tryd.Ty.mixed T_yldO0_ok (by decide +kernel) rfl rfl ?_
  have hA : lcO.assign = lcO.assign := rfl
  have hB : lcO.body = lcO.body := rfl
  conv at hA => rhs; simp only [lcO, lcOf, rangeIn, bodyOf, Tryd.f8]
  conv at hB => rhs; simp only [lcO, lcOf, rangeIn, bodyOf, Tryd.f8]
  have hP : lcO.ps.toList = [12] := rfl
  rw [hA, W_V]
  simp (config := {maxSteps := 200000000}) only [hP, recO, lsS_f, lsP_f, valsB, intB, boolB, T_yldO0, Dig.tb_specDec, go_sem, go_sem, seval, true_and]
  rw [hB]
  simp (config := {maxSteps := 200000000}) only [hP, recO, lsS_f, lsP_f, valsB, intB, boolB, T_yldO0, Dig.tb_specDec, go_sem, go_sem, seval, true_and]
  clear hA hB hP
  refine ⟨fun h => ?_, fun h1 h2 => ?_⟩
  · have e : lenBad f p = true := by
      simp only [lenBad, lenMax]
      rcases h with h | ⟨h, h'⟩ <;> simp [h, *]
    rw [lenNext_bad e, e]
    and_intros <;> rfl
  · have e : lenBad f p = false := by
      simp only [lenBad, lenMax, h1, decide_true, Bool.not_true, Bool.false_or]; exact h2
    rw [lenNext_good e, e]
    and_intros <;> rfl
noncomputable def tb_yldO : List Blk → List AV → Option (List Blk × AV × Prop)
  | [b0, .cells 1 false d1 [.list 1 c], .cells 1 false d2 [v2], .cells 1 false d3 [v3], .cells 1 false d4 [v4], .cells 1 false d5 [.int .i64 f]], [.yld 0, .str p] =>
    some ([recO (lenBad f p), .cells 1 false d1 [.list 1 c], .cells 1 false d2 [v2], .cells 1 false d3 [v3], .cells 1 false d4 [.int .i64 (lenE (lenBad f p))], .cells 1 false d5 [.int .i64 (lenNext f p)]], .bool (!lenBad f p),
      b0 = recO false ∧ d1 = .nils ∧ d2 = .int .i64 0 ∧ v2 = .int .i64 0 ∧ d3 = .bool false ∧ v3 = .bool false ∧ d4 = .int .i64 0 ∧ v4 = .int .i64 0 ∧ d5 = .int .i64 0 ∧ (c.map toStr).map .str = c ∧ -1 ≤ f ∧ f ≤ 2147483647)
  | _, _ => none
theorem tb_yldO_ok : ∀ E args E' res q, tb_yldO E args = some (E', res, q) → q → SpecE Tryd.prog yldF E args E' res := by
  intro E args E' res q h hq
  unfold tb_yldO at h
  split at h
  · rename_i b0 d1 c d2 v2 d3 v3 d4 v4 d5 f p
    simp only [Option.some.injEq, Prod.mk.injEq] at h
    obtain ⟨rfl, rfl, rfl⟩ := h
    obtain ⟨rfl, rfl, rfl, rfl, rfl, rfl, rfl, rfl, rfl, h1, h2, h3⟩ := hq
    have := yldO (c.map toStr) p f ⟨h2, h3⟩
    simp only [valsB, enc_strs, h1] at this
    exact this
  · cases h
noncomputable def lcI : LoopC := lcOf Tryd.f44 21
noncomputable def recI (vs : List (List UInt8)) (j : Nat) (b : Bool) : Blk := .loop lcI (lsS b) (lsP b) [(13, .clo 89 0 [.ptr 1 0 0 1, .ptr 2 0 0 1, .ptr 3 0 0 1]), (2, .ptr 4 0 0 1), (6, .list 1 (vs.map .str)), (7, .int .i64 vs.length), (8, .int .i64 j)]
def recJ : Blk → Nat
  | .loop _ _ _ [_, _, _, _, (8, .int .i64 j)] => j.toNat
  | _ => 0
noncomputable def recO5 (b : Bool) : Blk := .loop lcO (lsS b) (lsP b) [(11, .clo 44 0 [.ptr 6 0 0 1]), (2, .ptr 7 0 0 1), (3, .ptr 8 0 0 1), (4, .ptr 9 0 0 1), (5, .ptr 10 0 0 1)]
def strB (t : List UInt8) : Blk := .cells 1 false (.str []) [.str t]
def yBox (k : Nat) : Blk := .cells 1 false .nilf [.yld k]
noncomputable def T_yldI0 : Tbl := addT (addT nilT 46 Oct.tb_specTrim) yldF tb_yldO
theorem T_yldI0_ok : TblOK Tryd.prog T_yldI0 := addT_ok (addT_ok nilT_ok (by decide +kernel) Oct.tb_specTrim_ok) (by simp) tb_yldO_ok
set_option maxRecDepth 100000 in
set_option maxHeartbeats 4000000 in
theorem yldI (vs : List (List UInt8)) (j : Nat) (t p : List UInt8) (f : Int) (hf : -1 ≤ f ∧ f ≤ 2147483647) (hp : p.length ≤ maxLen) :
    SpecE Tryd.prog yldF (recI vs j false :: [strB [44], strB t, intB 0, yBox 5, recO5 false, valsB vs, intB 0, boolB false, intB 0, intB f]) (.yld 0 :: [.str p])
      [recI vs j (lenBad f (trimS p)), strB [44], strB t, intB 0, yBox 5, recO5 (lenBad f (trimS p)), valsB vs, intB 0, boolB false, intB (lenE (lenBad f (trimS p))), intB (lenNext f (trimS p))] (.bool (!lenBad f (trimS p))) := by
  refine specY (C := T_yldI0) (wr := false) (D := fun i => if i = dN then [21] else if i = 6 then [3] else []) (U := fun _ => none) (nE := 11) [] Tryd.Ty.mixed T_yldI0_ok (by decide +kernel) rfl rfl ?_
  have hA : lcI.assign = lcI.assign := rfl
  have hB : lcI.body = lcI.body := rfl
  conv at hA => rhs; simp only [lcI, lcOf, rangeIn, bodyOf, Tryd.f44]
  conv at hB => rhs; simp only [lcI, lcOf, rangeIn, bodyOf, Tryd.f44]
  have hP : lcI.ps.toList = [14] := rfl
  rw [hA, W_V]
  simp (config := {maxSteps := 200000000}) only [hP, recI, recO, recO5, strB, yBox, lsS_f, lsP_f, valsB, enc_strs, intB, boolB, T_yldI0, Oct.tb_specTrim, tb_yldO, go_sem, go_sem, seval, true_and]
  rw [hB]
  simp (config := {maxSteps := 200000000}) only [hP, recI, recO, recO5, strB, yBox, lsS_f, lsP_f, valsB, enc_strs, intB, boolB, T_yldI0, Oct.tb_specTrim, tb_yldO, go_sem, go_sem, seval, true_and]
  clear hA hB hP
  refine ⟨hp, hf, fun e => ?_, fun e => ?_⟩
  · rw [e]
    and_intros <;> rfl
  · rw [e]
    and_intros <;> rfl
noncomputable def tb_yldI : List Blk → List AV → Option (List Blk × AV × Prop)
  | [b0, .cells 1 false e1 [.str w], .cells 1 false e2 [.str t], .cells 1 false e3 [u3], .cells 1 false e4 [u4], b5, .cells 1 false d1 [.list 1 c], .cells 1 false d2 [v2], .cells 1 false d3 [v3], .cells 1 false d4 [v4], .cells 1 false d5 [.int .i64 f]], [.yld 0, .str p] =>
    some ([recI (c.map toStr) (recJ b0) (lenBad f (trimS p)), .cells 1 false e1 [.str w], .cells 1 false e2 [.str t], .cells 1 false e3 [u3], .cells 1 false e4 [u4], recO5 (lenBad f (trimS p)), .cells 1 false d1 [.list 1 c], .cells 1 false d2 [v2], .cells 1 false d3 [v3], .cells 1 false d4 [.int .i64 (lenE (lenBad f (trimS p)))], .cells 1 false d5 [.int .i64 (lenNext f (trimS p))]], .bool (!lenBad f (trimS p)),
      b0 = recI (c.map toStr) (recJ b0) false ∧ b5 = recO5 false ∧ e1 = .str [] ∧ w = [44] ∧ e2 = .str [] ∧ e3 = .int .i64 0 ∧ u3 = .int .i64 0 ∧ e4 = .nilf ∧ u4 = .yld 5 ∧
      d1 = .nils ∧ d2 = .int .i64 0 ∧ v2 = .int .i64 0 ∧ d3 = .bool false ∧ v3 = .bool false ∧ d4 = .int .i64 0 ∧ v4 = .int .i64 0 ∧ d5 = .int .i64 0 ∧ (c.map toStr).map .str = c ∧ -1 ≤ f ∧ f ≤ 2147483647 ∧ p.length ≤ maxLen)
  | _, _ => none
theorem tb_yldI_ok : ∀ E args E' res q, tb_yldI E args = some (E', res, q) → q → SpecE Tryd.prog yldF E args E' res := by
  intro E args E' res q h hq
  unfold tb_yldI at h
  split at h
  · rename_i b0 e1 w e2 t e3 u3 e4 u4 b5 d1 c d2 v2 d3 v3 d4 v4 d5 f p
    simp only [Option.some.injEq, Prod.mk.injEq] at h
    obtain ⟨rfl, rfl, rfl⟩ := h
    obtain ⟨h0, rfl, rfl, rfl, rfl, rfl, rfl, rfl, rfl, rfl, rfl, rfl, rfl, rfl, rfl, rfl, rfl, h1, h2, h3, h4⟩ := hq
    have := yldI (c.map toStr) (recJ b0) t p f ⟨h2, h3⟩ h4
    simp only [valsB, enc_strs, h1] at this
    rw [← h0] at this
    exact this
  · cases h
noncomputable def yT : Tbl := addT nilT yldF tb_yldI
theorem yT_ok : TblOK Tryd.prog yT := addT_ok nilT_ok (by simp) tb_yldI_ok
noncomputable def T_specSeqF : Tbl := fun g E args => (addT yT 81 Go.Proofs.Tryd.Lib.tb_specIndexS) g E args
theorem T_specSeqF_ok : TblOK Tryd.prog T_specSeqF := (addT_ok yT_ok (by decide +kernel) Go.Proofs.Tryd.Lib.tb_specIndexS_ok)
set_option maxRecDepth 100000 in
set_option maxHeartbeats 4000000 in
theorem specSeqF (vs : List (List UInt8)) (j : Nat) (s : List UInt8) (f : Int) (hs : s.length ≤ 100000000) (hf : -1 ≤ f ∧ f ≤ 2147483647) : SpecE Tryd.prog 89 [recI vs j false, strB [44], strB s, intB 0, yBox 5, recO5 false, valsB vs, intB 0, boolB false, intB 0, intB f] [.yld 0, .ptr 1 0 0 1, .ptr 2 0 0 1, .ptr 3 0 0 1] [recI vs j (lenB f (lenParts s)), strB [44], strB (lenRest s.length f s), intB 0, yBox 5, recO5 (lenB f (lenParts s)), valsB vs, intB 0, boolB false, intB (lenE (lenB f (lenParts s))), intB (lenF f (lenParts s))] (.tuple []) := by
  refine specFE (C := T_specSeqF) (wr := false) (D := fun _ => []) (U := fun _ => none) (E := [recI vs j false, strB [44], strB s, intB 0, yBox 5, recO5 false, valsB vs, intB 0, boolB false, intB 0, intB f]) (E' := [recI vs j (lenB f (lenParts s)), strB [44], strB (lenRest s.length f s), intB 0, yBox 5, recO5 (lenB f (lenParts s)), valsB vs, intB 0, boolB false, intB (lenE (lenB f (lenParts s))), intB (lenF f (lenParts s))]) (res := []) [] Tryd.Ty.mixed T_specSeqF_ok Tryd.func89 (args := [.yld 0, .ptr 1 0 0 1, .ptr 2 0 0 1, .ptr 3 0 0 1]) (nE := 11) (nA := 4) (by decide +kernel) rfl rfl ?_
  simp only [Tryd.f89, bodyOf, rlOf]
  rw [W_V]
  simp (config := {maxSteps := 2000000}) only [T_specSeqF, Go.Proofs.Tryd.Lib.tb_specIndexS, go_sem, seval, yT, tb_yldI, recI, recJ, recO5, strB, intB, boolB, yBox, valsB, enc_strs, lsS_f, lsP_f]
  (try simp (config := {maxSteps := 2000000}) only [gimp, impB, isT, go_sem, seval])
  refine VL_inv (X := Nat × Int × List UInt8) (fun y => ⟨[(0, .yld 0), (1, .ptr 1 0 0 1), (2, .ptr 2 0 0 1), (3, .ptr 3 0 0 1)],
    [(0, recI vs j false), (1, strB [44]), (2, strB y.2.2), (3, intB 0), (4, yBox 5), (5, recO5 false), (6, valsB vs), (7, intB 0), (8, boolB false), (9, intB 0), (10, intB y.2.1)]⟩)
    (fun y => y.2.2.length ≤ y.1 ∧ y.2.2.length ≤ s.length ∧ (-1 ≤ y.2.1 ∧ y.2.1 ≤ 2147483647) ∧ lenB f (lenParts s) = lenB y.2.1 (lenParts y.2.2) ∧ lenF f (lenParts s) = lenF y.2.1 (lenParts y.2.2) ∧ lenRest s.length f s = lenRest y.1 y.2.1 y.2.2) (fun y => y.2.2.length) (s.length, f, s) ?_ ?_ ?_
  · simp only [T_specSeqF, Go.Proofs.Tryd.Lib.tb_specIndexS, go_sem, seval, yT, tb_yldI, recI, recJ, recO5, strB, intB, boolB, yBox, valsB, enc_strs, lsS_f, lsP_f]
    try rfl
  · exact ⟨Nat.le_refl _, Nat.le_refl _, hf, rfl, rfl, rfl⟩
  rintro ⟨n, g, r⟩ ⟨i1, i2, i3, i4, i5, i6⟩
  simp only at i1 i2 i3 i4 i5 i6
  simp (config := {maxSteps := 2000000}) only [T_specSeqF, Go.Proofs.Tryd.Lib.tb_specIndexS, go_sem, seval, yT, tb_yldI, recI, recJ, recO5, strB, intB, boolB, yBox, valsB, enc_strs, lsS_f, lsP_f]
  (try simp (config := {maxSteps := 2000000}) only [gimp, impB, isT, go_sem, seval])
  have hx : r.length ≤ maxLen := by have : (100000000 : Nat) ≤ maxLen := by decide
                                    omega
  refine ⟨hx, fun hneg => ?_, fun hpos => ?_⟩
  · have h : ¬ upTo 44 r < r.length := fun h => by rw [idxB, if_pos h] at hneg; omega
    have e1 : lenB f (lenParts s) = lenBad g (trimS r) := by rw [i4, lenParts_last h]; simp [lenB]
    have e2 : lenF f (lenParts s) = lenNext g (trimS r) := by
      rw [i5, lenParts_last h]; simp only [lenF]
      split
      · rename_i hb; rw [lenNext_bad hb]
      · rfl
    have e3 : lenRest s.length f s = r := by rw [i6, lenRest_last h]
    rw [e1, e2, e3]
    and_intros <;> first | omega | rfl | exact hx
  · have h : upTo 44 r < r.length := by
      rcases Nat.lt_or_ge (upTo 44 r) r.length with h | h
      · exact h
      · rw [idxB, if_neg (by omega)] at hpos; omega
    have e : idxB 44 r = (upTo 44 r : Nat) := by rw [idxB, if_pos h]
    have e5 : (idxB 44 r + 0).toNat = upTo 44 r := by omega
    have e6 : (idxB 44 r + 1).toNat = upTo 44 r + 1 := by omega
    simp only [e5]
    have ht : (r.take (upTo 44 r)).length ≤ maxLen := by rw [List.length_take]; omega
    refine ⟨by omega, by omega, ⟨i3.1, i3.2, ht⟩, fun hb => ?_, fun hb => ?_⟩
    · have e1 : lenB f (lenParts s) = true := by rw [i4, lenParts_first h]; simp [lenB, hb]
      have e2 : lenF f (lenParts s) = g := by rw [i5, lenParts_first h]; simp [lenF, hb]
      have e3 : lenRest s.length f s = r := by rw [i6, lenRest_bad h hb]
      rw [hb, lenNext_bad hb, e1, e2, e3]
      and_intros <;> rfl
    · have hn : n = (n - 1) + 1 := by omega
      have hd : (r.drop (upTo 44 r + 1)).length + (upTo 44 r + 1) = r.length := by rw [List.length_drop]; omega
      have e1 : lenB g (lenParts r) = lenB (lenNext g (trimS (r.take (upTo 44 r)))) (lenParts (r.drop (upTo 44 r + 1))) := by rw [lenParts_first h]; simp [lenB, hb]
      have e2 : lenF g (lenParts r) = lenF (lenNext g (trimS (r.take (upTo 44 r)))) (lenParts (r.drop (upTo 44 r + 1))) := by rw [lenParts_first h]; simp [lenF, hb]
      have e3 : lenRest n g r = lenRest (n - 1) (lenNext g (trimS (r.take (upTo 44 r)))) (r.drop (upTo 44 r + 1)) := by rw [hn, lenRest_next h hb]; rfl
      have e4 := lenNext_range (f := g) (p := trimS (r.take (upTo 44 r))) i3
      simp only [hb, e6]
      refine ⟨by omega, by omega, (n - 1, lenNext g (trimS (r.take (upTo 44 r))), r.drop (upTo 44 r + 1)), by and_intros <;> rfl, ⟨by simp only; omega, by simp only; omega, e4, i4.trans e1, i5.trans e2, i6.trans e3⟩, by simp only; omega⟩
noncomputable def tb_seqF : List Blk → List AV → Option (List Blk × AV × Prop)
  | [b0, .cells 1 false e1 [.str w], .cells 1 false e2 [.str s], .cells 1 false e3 [u3], .cells 1 false e4 [u4], b5, .cells 1 false d1 [.list 1 c], .cells 1 false d2 [v2], .cells 1 false d3 [v3], .cells 1 false d4 [v4], .cells 1 false d5 [.int .i64 f]], [.yld 0, .ptr 1 0 0 1, .ptr 2 0 0 1, .ptr 3 0 0 1] =>
    some ([recI (c.map toStr) (recJ b0) (lenB f (lenParts s)), .cells 1 false e1 [.str w], .cells 1 false e2 [.str (lenRest s.length f s)], .cells 1 false e3 [u3], .cells 1 false e4 [u4], recO5 (lenB f (lenParts s)), .cells 1 false d1 [.list 1 c], .cells 1 false d2 [v2], .cells 1 false d3 [v3], .cells 1 false d4 [.int .i64 (lenE (lenB f (lenParts s)))], .cells 1 false d5 [.int .i64 (lenF f (lenParts s))]], .tuple [],
      b0 = recI (c.map toStr) (recJ b0) false ∧ b5 = recO5 false ∧ e1 = .str [] ∧ w = [44] ∧ e2 = .str [] ∧ e3 = .int .i64 0 ∧ u3 = .int .i64 0 ∧ e4 = .nilf ∧ u4 = .yld 5 ∧
      d1 = .nils ∧ d2 = .int .i64 0 ∧ v2 = .int .i64 0 ∧ d3 = .bool false ∧ v3 = .bool false ∧ d4 = .int .i64 0 ∧ v4 = .int .i64 0 ∧ d5 = .int .i64 0 ∧ (c.map toStr).map .str = c ∧ -1 ≤ f ∧ f ≤ 2147483647 ∧ s.length ≤ 100000000)
  | _, _ => none
theorem tb_seqF_ok : ∀ E args E' res q, tb_seqF E args = some (E', res, q) → q → SpecE Tryd.prog 89 E args E' res := by
  intro E args E' res q h hq
  unfold tb_seqF at h
  split at h
  · rename_i b0 e1 w e2 s e3 u3 e4 u4 b5 d1 c d2 v2 d3 v3 d4 v4 d5 f
    simp only [Option.some.injEq, Prod.mk.injEq] at h
    obtain ⟨rfl, rfl, rfl⟩ := h
    obtain ⟨h0, rfl, rfl, rfl, rfl, rfl, rfl, rfl, rfl, rfl, rfl, rfl, rfl, rfl, rfl, rfl, rfl, h1, h2, h3, h4⟩ := hq
    have := specSeqF (c.map toStr) (recJ b0) s f h4 ⟨h2, h3⟩
    simp only [valsB, enc_strs, h1, strB, intB, boolB, yBox] at this
    rw [← h0] at this
    exact this
  · cases h
noncomputable def sT : Tbl := addT nilT 89 tb_seqF
theorem sT_ok : TblOK Tryd.prog sT := addT_ok nilT_ok (by decide +kernel) tb_seqF_ok
def T_specSplitSeq0 : Tbl := fun g E args => nilT g E args
theorem T_specSplitSeq0_ok : TblOK Tryd.prog T_specSplitSeq0 := nilT_ok
set_option maxRecDepth 100000 in
set_option maxHeartbeats 4000000 in
theorem specSplitSeq0 (s c : List UInt8) (n : Int) : SpecE Tryd.prog 65 [] [.str s, .str c, .int .i64 n] [.cells 1 false (.str []) [.str s], .cells 1 false (.str []) [.str c], .cells 1 false (.int .i64 0) [.int .i64 n]] (.clo 89 0 [.ptr 1 0 0 1, .ptr 0 0 0 1, .ptr 2 0 0 1]) := by
  refine specFE (C := T_specSplitSeq0) (wr := false) (D := fun _ => []) (U := fun _ => none) (E := []) (E' := [.cells 1 false (.str []) [.str s], .cells 1 false (.str []) [.str c], .cells 1 false (.int .i64 0) [.int .i64 n]]) (res := [.clo 89 0 [.ptr 1 0 0 1, .ptr 0 0 0 1, .ptr 2 0 0 1]]) [64, 80, 96] Tryd.Ty.mixed T_specSplitSeq0_ok Tryd.func65 (args := [.str s, .str c, .int .i64 n]) (nE := 0) (nA := 3) (by decide +kernel) rfl rfl ?_
  simp only [Tryd.f65, bodyOf, rlOf]
  rw [W_V]
  simp (config := {maxSteps := 2000000}) only [T_specSplitSeq0, go_sem, seval]
  (try simp (config := {maxSteps := 2000000}) only [gimp, impB, isT, go_sem, seval])
def tb_specSplitSeq0 : List Blk → List AV → Option (List Blk × AV × Prop)
  | [], [.str s, .str c, .int .i64 n] => some ([.cells 1 false (.str []) [.str s], .cells 1 false (.str []) [.str c], .cells 1 false (.int .i64 0) [.int .i64 n]], .clo 89 0 [.ptr 1 0 0 1, .ptr 0 0 0 1, .ptr 2 0 0 1], True)
  | _, _ => none
theorem tb_specSplitSeq0_ok : ∀ E args E' res p, tb_specSplitSeq0 E args = some (E', res, p) → p → SpecE Tryd.prog 65 E args E' res := by
  intro E args E' res p h hp
  unfold tb_specSplitSeq0 at h
  split at h
  · simp only [Option.some.injEq, Prod.mk.injEq] at h
    obtain ⟨rfl, rfl, rfl⟩ := h
    exact (specSplitSeq0 _ _ _)
  · cases h
def T_specSplitSeq : Tbl := fun g E args => (addT nilT 65 Go.Proofs.Tryd.Len.tb_specSplitSeq0) g E args
theorem T_specSplitSeq_ok : TblOK Tryd.prog T_specSplitSeq := (addT_ok nilT_ok (by decide +kernel) Go.Proofs.Tryd.Len.tb_specSplitSeq0_ok)
set_option maxRecDepth 100000 in
set_option maxHeartbeats 4000000 in
theorem specSplitSeq (s c : List UInt8) : SpecE Tryd.prog 45 [] [.str s, .str c] [.cells 1 false (.str []) [.str s], .cells 1 false (.str []) [.str c], .cells 1 false (.int .i64 0) [.int .i64 0]] (.clo 89 0 [.ptr 1 0 0 1, .ptr 0 0 0 1, .ptr 2 0 0 1]) := by
  refine specFE (C := T_specSplitSeq) (wr := false) (D := fun _ => []) (U := fun _ => none) (E := []) (E' := [.cells 1 false (.str []) [.str s], .cells 1 false (.str []) [.str c], .cells 1 false (.int .i64 0) [.int .i64 0]]) (res := [.clo 89 0 [.ptr 1 0 0 1, .ptr 0 0 0 1, .ptr 2 0 0 1]]) [128, 129, 130] Tryd.Ty.mixed T_specSplitSeq_ok Tryd.func45 (args := [.str s, .str c]) (nE := 0) (nA := 2) (by decide +kernel) rfl rfl ?_
  simp only [Tryd.f45, bodyOf, rlOf]
  rw [W_V]
  simp (config := {maxSteps := 2000000}) only [T_specSplitSeq, Go.Proofs.Tryd.Len.tb_specSplitSeq0, go_sem, seval]
  (try simp (config := {maxSteps := 2000000}) only [gimp, impB, isT, go_sem, seval])
def tb_specSplitSeq : List Blk → List AV → Option (List Blk × AV × Prop)
  | [], [.str s, .str c] => some ([.cells 1 false (.str []) [.str s], .cells 1 false (.str []) [.str c], .cells 1 false (.int .i64 0) [.int .i64 0]], .clo 89 0 [.ptr 1 0 0 1, .ptr 0 0 0 1, .ptr 2 0 0 1], True)
  | _, _ => none
theorem tb_specSplitSeq_ok : ∀ E args E' res p, tb_specSplitSeq E args = some (E', res, p) → p → SpecE Tryd.prog 45 E args E' res := by
  intro E args E' res p h hp
  unfold tb_specSplitSeq at h
  split at h
  · simp only [Option.some.injEq, Prod.mk.injEq] at h
    obtain ⟨rfl, rfl, rfl⟩ := h
    exact (specSplitSeq _ _)
  · cases h
noncomputable def T_specPartsF : Tbl := fun g E args => (addT sT 45 Go.Proofs.Tryd.Len.tb_specSplitSeq) g E args
theorem T_specPartsF_ok : TblOK Tryd.prog T_specPartsF := (addT_ok sT_ok (by decide +kernel) Go.Proofs.Tryd.Len.tb_specSplitSeq_ok)
set_option maxRecDepth 100000 in
set_option maxHeartbeats 4000000 in
theorem specPartsF (vs : List (List UInt8)) (hn : vs.length ≤ 1000000) (hv : ∀ x ∈ vs, x.length ≤ 1000000) : SpecE Tryd.prog 44 [recO false, valsB vs, intB 0, boolB false, intB 0, intB (-1)] [.yld 0, .ptr 1 0 0 1] [recO (lenB (-1) (lenAll vs)), valsB vs, intB 0, boolB false, intB (lenE (lenB (-1) (lenAll vs))), intB (lenF (-1) (lenAll vs))] (.tuple []) := by
  refine specFEM (C := T_specPartsF) (wr := false) (D := fun i => if i = dN then [21] else if i = 6 then [3] else []) (U := fun _ => none) (E := [recO false, valsB vs, intB 0, boolB false, intB 0, intB (-1)]) (E' := [recO (lenB (-1) (lenAll vs)), valsB vs, intB 0, boolB false, intB (lenE (lenB (-1) (lenAll vs))), intB (lenF (-1) (lenAll vs))]) (res := []) [] Tryd.Ty.mixed T_specPartsF_ok Tryd.func44 (args := [.yld 0, .ptr 1 0 0 1]) (nE := 6) (nA := 2) (by decide +kernel) rfl rfl ?_
  simp only [Tryd.f44, bodyOf, rlOf]
  rw [W_V]
  simp (config := {maxSteps := 2000000}) only [T_specPartsF, Go.Proofs.Tryd.Len.tb_specSplitSeq, go_sem, seval, sT, tb_seqF, recI, recJ, recO, recO5, strB, intB, boolB, yBox, valsB, enc_strs, lsS_f, lsP_f, FinEM, FinEvM]
  (try simp (config := {maxSteps := 2000000}) only [gimp, impB, isT, go_sem, seval])
  refine VL_inv (X := Nat) (fun j => ⟨[(2, .ptr 48 0 0 1), (6, .list 1 (vs.map .str)), (7, .int .i64 vs.length), (8, .int .i64 j)],
    [(0, recO false), (1, valsB vs), (2, intB 0), (3, boolB false), (4, intB 0), (5, intB (lenF (-1) (lenAll (vs.take j)))), (48, yBox 0)]⟩)
    (fun j => j ≤ vs.length ∧ lenB (-1) (lenAll (vs.take j)) = false ∧ -1 ≤ lenF (-1) (lenAll (vs.take j)) ∧ lenF (-1) (lenAll (vs.take j)) ≤ 2147483647) (fun j => vs.length - j) 0 ?_ ?_ ?_
  · simp only [T_specPartsF, Go.Proofs.Tryd.Len.tb_specSplitSeq, go_sem, seval, sT, tb_seqF, recI, recJ, recO, recO5, strB, intB, boolB, yBox, valsB, enc_strs, lsS_f, lsP_f, FinEM, FinEvM]
    exact ⟨rfl, rfl⟩
  · refine ⟨Nat.zero_le _, rfl, ?_⟩
    simp only [List.take_zero, lenAll, List.flatMap_nil, lenF]
    omega
  rintro j ⟨i1, i2, i3, i4⟩
  simp (config := {maxSteps := 2000000}) only [T_specPartsF, Go.Proofs.Tryd.Len.tb_specSplitSeq, go_sem, seval, sT, tb_seqF, recI, recJ, recO, recO5, strB, intB, boolB, yBox, valsB, enc_strs, lsS_f, lsP_f, FinEM, FinEvM]
  (try simp (config := {maxSteps := 2000000}) only [gimp, impB, isT, go_sem, seval])
  refine ⟨fun hlt => ⟨by omega, ?_⟩, fun hge => ?_⟩
  · have hj : j < vs.length := by omega
    have hl := hv _ (List.mem_of_getElem? (getD_of_lt (s := vs) (d := []) hj))
    refine VR_intro ⟨[(13, .clo 89 0 [.ptr 225 0 0 1, .ptr 224 0 0 1, .ptr 226 0 0 1]), (2, .ptr 48 0 0 1), (6, .list 1 (vs.map .str)), (7, .int .i64 vs.length), (8, .int .i64 j)],
      [(225, strB [44]), (224, strB (vs.getD j [])), (226, intB 0), (48, yBox 0), (0, recO false), (1, valsB vs), (2, intB 0), (3, boolB false), (4, intB 0), (5, intB (lenF (-1) (lenAll (vs.take j))))]⟩ lcI ?_ rfl rfl rfl rfl ?_
    · simp only [T_specPartsF, Go.Proofs.Tryd.Len.tb_specSplitSeq, go_sem, seval, sT, tb_seqF, recI, recJ, recO, recO5, strB, intB, boolB, yBox, valsB, enc_strs, lsS_f, lsP_f, FinEM, FinEvM]
    have ht : lenAll (vs.take (j + 1)) = lenAll (vs.take j) ++ lenParts (vs.getD j []) := by
      rw [take_succ_getD [] hj, lenAll, List.flatMap_append]; simp [lenAll]
    generalize vs.getD j [] = v at *
    obtain ⟨p1, p2⟩ := lenB_post (b := lenParts v) i2
    by_cases hb : lenB (lenF (-1) (lenAll (vs.take j))) (lenParts v) = true
    · simp only [T_specPartsF, Go.Proofs.Tryd.Len.tb_specSplitSeq, go_sem, seval, sT, tb_seqF, recI, recJ, recO, recO5, strB, intB, boolB, yBox, valsB, enc_strs, lsS_f, lsP_f, FinEM, FinEvM, hb, lsS_t, lsP_t, lenE_t]
      obtain ⟨q1, q2⟩ := lenB_pre (f := -1) (a := lenAll (vs.take j) ++ lenParts v) (b := lenAll (vs.drop (j + 1))) (by rw [p1]; exact hb)
      rw [← ht, ← lenAll_take] at q1 q2
      rw [ht, p2] at q2
      rw [q1, q2]
      refine ⟨by decide +kernel, ⟨i3, i4, by omega⟩, by and_intros <;> rfl, fun b h => by cases h; rfl⟩
    · rw [Bool.not_eq_true] at hb
      simp only [T_specPartsF, Go.Proofs.Tryd.Len.tb_specSplitSeq, go_sem, seval, sT, tb_seqF, recI, recJ, recO, recO5, strB, intB, boolB, yBox, valsB, enc_strs, lsS_f, lsP_f, FinEM, FinEvM, hb, lsS_f, lsP_f, lenE_f]
      rw [← ht] at p1 p2
      have hr := lenF_range (f := lenF (-1) (lenAll (vs.take j))) (lenParts v) ⟨i3, i4⟩
      rw [← p2] at hr
      rw [← p2]
      refine ⟨by decide +kernel, ⟨i3, i4, by omega⟩, by omega, j + 1, ⟨by omega, rfl, rfl⟩, ⟨by omega, p1.trans hb, hr⟩, by omega⟩
  · have e0 : j = vs.length := by omega
    subst e0
    rw [List.take_length] at *
    rw [i2]
    and_intros <;> rfl
noncomputable def tb_partsF : List Blk → List AV → Option (List Blk × AV × Prop)
  | [b0, .cells 1 false d1 [.list 1 c], .cells 1 false d2 [v2], .cells 1 false d3 [v3], .cells 1 false d4 [v4], .cells 1 false d5 [v5]], [.yld 0, .ptr 1 0 0 1] =>
    some ([recO (lenB (-1) (lenAll (c.map toStr))), .cells 1 false d1 [.list 1 c], .cells 1 false d2 [v2], .cells 1 false d3 [v3], .cells 1 false d4 [.int .i64 (lenE (lenB (-1) (lenAll (c.map toStr))))], .cells 1 false d5 [.int .i64 (lenF (-1) (lenAll (c.map toStr)))]], .tuple [],
      b0 = recO false ∧ d1 = .nils ∧ d2 = .int .i64 0 ∧ v2 = .int .i64 0 ∧ d3 = .bool false ∧ v3 = .bool false ∧ d4 = .int .i64 0 ∧ v4 = .int .i64 0 ∧ d5 = .int .i64 0 ∧ v5 = .int .i64 (-1) ∧ (c.map toStr).map .str = c ∧ c.length ≤ 1000000 ∧ ∀ x ∈ c.map toStr, x.length ≤ 1000000)
  | _, _ => none
theorem tb_partsF_ok : ∀ E args E' res q, tb_partsF E args = some (E', res, q) → q → SpecE Tryd.prog 44 E args E' res := by
  intro E args E' res q h hq
  unfold tb_partsF at h
  split at h
  · rename_i b0 d1 c d2 v2 d3 v3 d4 v4 d5 v5
    simp only [Option.some.injEq, Prod.mk.injEq] at h
    obtain ⟨rfl, rfl, rfl⟩ := h
    obtain ⟨rfl, rfl, rfl, rfl, rfl, rfl, rfl, rfl, rfl, rfl, h1, h2, h3⟩ := hq
    have := specPartsF (c.map toStr) (by rw [List.length_map]; exact h2) h3
    simp only [valsB, enc_strs, h1, intB, boolB] at this
    exact this
  · cases h
noncomputable def pT : Tbl := addT nilT 44 tb_partsF
theorem pT_ok : TblOK Tryd.prog pT := addT_ok nilT_ok (by decide +kernel) tb_partsF_ok
def T_specParts : Tbl := fun g E args => nilT g E args
theorem T_specParts_ok : TblOK Tryd.prog T_specParts := nilT_ok
set_option maxRecDepth 100000 in
set_option maxHeartbeats 4000000 in
theorem specParts (vs : List (List UInt8)) : SpecE Tryd.prog 18 [] [enc_strs vs] [.cells 1 false .nils [enc_strs vs]] (.clo 44 0 [.ptr 0 0 0 1]) := by
  refine specFE (C := T_specParts) (wr := false) (D := fun _ => []) (U := fun _ => none) (E := []) (E' := [.cells 1 false .nils [enc_strs vs]]) (res := [.clo 44 0 [.ptr 0 0 0 1]]) [32] Tryd.Ty.mixed T_specParts_ok Tryd.func18 (args := [enc_strs vs]) (nE := 0) (nA := 1) (by decide +kernel) rfl rfl ?_
  simp only [Tryd.f18, bodyOf, rlOf]
  rw [W_V]
  simp (config := {maxSteps := 2000000}) only [T_specParts, go_sem, seval]
  (try simp (config := {maxSteps := 2000000}) only [gimp, impB, isT, go_sem, seval])
def tb_specParts : List Blk → List AV → Option (List Blk × AV × Prop)
  | [], [a0] => some ([.cells 1 false .nils [enc_strs (dec_strs a0)]], .clo 44 0 [.ptr 0 0 0 1], argOK a0 (enc_strs (dec_strs a0)))
  | _, _ => none
theorem tb_specParts_ok : ∀ E args E' res p, tb_specParts E args = some (E', res, p) → p → SpecE Tryd.prog 18 E args E' res := by
  intro E args E' res p h hp
  unfold tb_specParts at h
  split at h
  · simp only [Option.some.injEq, Prod.mk.injEq] at h
    obtain ⟨rfl, rfl, rfl⟩ := h
    exact SpecE.args (specParts _) (.cons hp .nil)
  · cases h
end Go.Proofs.Tryd.Len
end
section
set_option linter.unusedVariables false
set_option linter.unusedSimpArgs false
namespace Go.Proofs.Tryd.Hdr
open Go Go.Abs Go.Proofs Go.Mdl
def tb_specDel : List Blk → List AV → Option (List Blk × AV × Prop)
  | [.cells 2 false d0 c, .cells 1 false d1 [x]], [.ref 0 0 m1 m2, .clo 67 0 [.ptr 1 0 0 1]] =>
    some ([.cells 2 false d0 ((delP ([], []) (isN (dec_strs x)) (c.map dec_fld)).map enc_fld), .cells 1 false .nils [enc_strs (dec_strs x)]],
      .ref 0 0 (withoutS (c.map dec_fld) (dec_strs x)).length m2,
      d0 = .agg [.str [], .str []] ∧ d1 = .nils ∧ m1 = c.length ∧ m2 = c.length ∧ (c.map dec_fld).map enc_fld = c ∧ enc_strs (dec_strs x) = x ∧ (dec_strs x).length ≤ maxLen ∧ (∀ y ∈ dec_strs x, y.length ≤ maxLen) ∧ c.length ≤ 1000000)
  | _, _ => none
theorem tb_specDel_ok : ∀ E args E' res q, tb_specDel E args = some (E', res, q) → q → SpecE Tryd.prog 51 E args E' res := by
  intro E args E' res q h hq
  unfold tb_specDel at h
  split at h
  · rename_i d0 c d1 x m1 m2
    simp only [Option.some.injEq, Prod.mk.injEq] at h
    obtain ⟨rfl, rfl, rfl⟩ := h
    obtain ⟨rfl, rfl, h1, h2, h3, h4, h5, h6, h7⟩ := hq
    have := specDel (dec_strs x) (c.map dec_fld) m1 m2 h5 h6 (by rw [List.length_map]; exact h7) (by rw [List.length_map]; exact h1) (by rw [List.length_map]; exact h2)
    rw [h3, h4] at this
    rw [h4]
    exact this
  · cases h
def T_specWithout : Tbl := fun g E args => (addT (addT (addT nilT 52 Go.Proofs.Tryd.Hdr.tb_specClone) 47 Go.Proofs.Tryd.Hdr.tb_specNamed) 51 Go.Proofs.Tryd.Hdr.tb_specDel) g E args
theorem T_specWithout_ok : TblOK Tryd.prog T_specWithout := (addT_ok (addT_ok (addT_ok nilT_ok (by decide +kernel) Go.Proofs.Tryd.Hdr.tb_specClone_ok) (by decide +kernel) Go.Proofs.Tryd.Hdr.tb_specNamed_ok) (by decide +kernel) Go.Proofs.Tryd.Hdr.tb_specDel_ok)
set_option maxRecDepth 100000 in
set_option maxHeartbeats 4000000 in
theorem specWithout (l : List Fld) (names : List (List UInt8)) (hl : l.length ≤ 1000000) (hn : names.length ≤ maxLen) (hq : ∀ x ∈ names, x.length ≤ maxLen) : SpecE Tryd.prog 25 [] [enc_flds l, enc_strs names] [.cells 2 false (.agg [.str [], .str []]) ((delP ([], []) (isN names) l).map enc_fld)] (.ref 0 0 (withoutS l names).length l.length) := by
  refine specFE (C := T_specWithout) (wr := false) (D := fun _ => []) (U := fun _ => none) (E := []) (E' := [.cells 2 false (.agg [.str [], .str []]) ((delP ([], []) (isN names) l).map enc_fld)]) (res := [.ref 0 0 (withoutS l names).length l.length]) [112] Tryd.Ty.mixed T_specWithout_ok Tryd.func25 (args := [enc_flds l, enc_strs names]) (nE := 0) (nA := 2) (by decide +kernel) rfl rfl ?_
  simp only [Tryd.f25, bodyOf, rlOf]
  rw [W_V]
  simp (config := {maxSteps := 2000000}) only [T_specWithout, Go.Proofs.Tryd.Hdr.tb_specClone, Go.Proofs.Tryd.Hdr.tb_specNamed, Go.Proofs.Tryd.Hdr.tb_specDel, go_sem, seval]
  (try simp (config := {maxSteps := 2000000}) only [gimp, impB, isT, go_sem, seval])
  exact ⟨hl, hn, hq, hl⟩
def tb_specWithout : List Blk → List AV → Option (List Blk × AV × Prop)
  | [], [a0, a1] => some ([.cells 2 false (.agg [.str [], .str []]) ((delP ([], []) (isN (dec_strs a1)) (dec_flds a0)).map enc_fld)], .ref 0 0 (withoutS (dec_flds a0) (dec_strs a1)).length (dec_flds a0).length, ((dec_flds a0).length ≤ 1000000) ∧ ((dec_strs a1).length ≤ maxLen) ∧ (∀ x ∈ (dec_strs a1), x.length ≤ maxLen) ∧ argOK a0 (enc_flds (dec_flds a0)) ∧ argOK a1 (enc_strs (dec_strs a1)))
  | _, _ => none
theorem tb_specWithout_ok : ∀ E args E' res p, tb_specWithout E args = some (E', res, p) → p → SpecE Tryd.prog 25 E args E' res := by
  intro E args E' res p h hp
  unfold tb_specWithout at h
  split at h
  · simp only [Option.some.injEq, Prod.mk.injEq] at h
    obtain ⟨rfl, rfl, rfl⟩ := h
    exact SpecE.args (specWithout _ _ hp.1 hp.2.1 hp.2.2.1) (.cons hp.2.2.2.1 (.cons hp.2.2.2.2 .nil))
  · cases h
def T_specWith : Tbl := fun g E args => nilT g E args
theorem T_specWith_ok : TblOK Tryd.prog T_specWith := nilT_ok
set_option maxRecDepth 100000 in
set_option maxHeartbeats 4000000 in
theorem specWith (l : List Fld) (n v : List UInt8) (hl : l.length ≤ 1000000) : SpecE Tryd.prog 24 [] [enc_flds l, .str n, .str v] [.cells 2 false (.agg [.str [], .str []]) ((withS l n v).map enc_fld)] (.ref 0 0 (withS l n v).length (withS l n v).length) := by
  refine specFE (C := T_specWith) (wr := false) (D := fun _ => []) (U := fun _ => none) (E := []) (E' := [.cells 2 false (.agg [.str [], .str []]) ((withS l n v).map enc_fld)]) (res := [.ref 0 0 (withS l n v).length (withS l n v).length]) [192] Tryd.Ty.mixed T_specWith_ok Tryd.func24 (args := [enc_flds l, .str n, .str v]) (nE := 0) (nA := 3) (by decide +kernel) rfl rfl ?_
  simp only [Tryd.f24, bodyOf, rlOf]
  rw [W_V]
  simp (config := {maxSteps := 2000000}) only [T_specWith, go_sem, seval]
  (try simp (config := {maxSteps := 2000000}) only [gimp, impB, isT, go_sem, seval])
  have hm : min l.length (l.length + 1) = l.length := by omega
  have hd : List.drop l.length (AV.agg [.str [], .str []] :: List.replicate l.length (AV.agg [.str [], .str []])) = [AV.agg [.str [], .str []]] := by
    rw [← List.replicate_succ, List.drop_replicate]
    simp
  simp only [hm, Nat.zero_add, List.take_length, hd]
  refine ⟨by omega, by omega, by simp, ⟨by simp, by omega, by omega⟩, ⟨by simp, by simp⟩, by simp [withS], ?_⟩
  simp [withS, enc_fld, List.set_append]
def tb_specWith : List Blk → List AV → Option (List Blk × AV × Prop)
  | [], [a0, .str n, .str v] => some ([.cells 2 false (.agg [.str [], .str []]) ((withS (dec_flds a0) n v).map enc_fld)], .ref 0 0 (withS (dec_flds a0) n v).length (withS (dec_flds a0) n v).length, ((dec_flds a0).length ≤ 1000000) ∧ argOK a0 (enc_flds (dec_flds a0)))
  | _, _ => none
theorem tb_specWith_ok : ∀ E args E' res p, tb_specWith E args = some (E', res, p) → p → SpecE Tryd.prog 24 E args E' res := by
  intro E args E' res p h hp
  unfold tb_specWith at h
  split at h
  · simp only [Option.some.injEq, Prod.mk.injEq] at h
    obtain ⟨rfl, rfl, rfl⟩ := h
    exact SpecE.args (specWith _ _ _ hp.1) (.cons hp.2 (.cons (argOK.refl _) (.cons (argOK.refl _) .nil)))
  · cases h
end Go.Proofs.Tryd.Hdr
end
section
set_option linter.unusedVariables false
set_option linter.unusedSimpArgs false
namespace Go.Proofs.Tryd.HdrR
open Go Go.Abs Go.Proofs Go.Mdl
def T_specIs : Tbl := fun g E args => (addT nilT 72 Go.Proofs.Tryd.Oct.tb_specLowerR) g E args
theorem T_specIs_ok : TblOK Tryd.prog T_specIs := (addT_ok nilT_ok (by decide +kernel) Go.Proofs.Tryd.Oct.tb_specLowerR_ok)
set_option maxRecDepth 100000 in
set_option maxHeartbeats 4000000 in
theorem specIs (a b : List UInt8) (ha : a.length ≤ 1000000) (hb : b.length ≤ 1000000) : SpecE Tryd.prog 49 [] [.str a, .str b] [] (.bool (decide (lowerS a = lowerS b))) := by
  refine specF0 (C := T_specIs) (wr := false) (D := fun _ => []) (U := fun _ => none) (res := [.bool (decide (lowerS a = lowerS b))]) Tryd.Ty.mixed T_specIs_ok Tryd.func49 (nA := 2) (by decide +kernel) rfl (fun _ => rfl) ?_
  simp only [Tryd.f49, bodyOf, rlOf]
  rw [W_V]
  simp (config := {maxSteps := 2000000}) only [T_specIs, Go.Proofs.Tryd.Oct.tb_specLowerR, go_sem, seval]
  (try simp (config := {maxSteps := 2000000}) only [gimp, impB, isT, go_sem, seval])
  exact ⟨ha, hb⟩
def tb_specIs : List Blk → List AV → Option (List Blk × AV × Prop)
  | [], [.str a, .str b] => some ([], .bool (decide (lowerS a = lowerS b)), (a.length ≤ 1000000) ∧ (b.length ≤ 1000000))
  | _, _ => none
theorem tb_specIs_ok : ∀ E args E' res p, tb_specIs E args = some (E', res, p) → p → SpecE Tryd.prog 49 E args E' res := by
  intro E args E' res p h hp
  unfold tb_specIs at h
  split at h
  · simp only [Option.some.injEq, Prod.mk.injEq] at h
    obtain ⟨rfl, rfl, rfl⟩ := h
    exact (specIs _ _ hp.1 hp.2)
  · cases h
def T_specWith : Tbl := fun g E args => nilT g E args
theorem T_specWith_ok : TblOK Tryd.prog T_specWith := nilT_ok
set_option maxRecDepth 100000 in
set_option maxHeartbeats 4000000 in
theorem specWith (l : List Fld) (n v : List UInt8) (hl : l.length ≤ 1000000) : SpecE Tryd.prog 27 [] [enc_flds l, .str n, .str v] [.cells 2 false (.agg [.str [], .str []]) ((withS l n v).map enc_fld)] (.ref 0 0 (withS l n v).length (withS l n v).length) := by
  refine specFE (C := T_specWith) (wr := false) (D := fun _ => []) (U := fun _ => none) (E := []) (E' := [.cells 2 false (.agg [.str [], .str []]) ((withS l n v).map enc_fld)]) (res := [.ref 0 0 (withS l n v).length (withS l n v).length]) [128] Tryd.Ty.mixed T_specWith_ok Tryd.func27 (args := [enc_flds l, .str n, .str v]) (nE := 0) (nA := 3) (by decide +kernel) rfl rfl ?_
  simp only [Tryd.f27, bodyOf, rlOf]
  rw [W_V]
  simp (config := {maxSteps := 2000000}) only [T_specWith, go_sem, seval, true_and]
  (try simp (config := {maxSteps := 2000000}) only [gimp, impB, isT, go_sem, seval])
  refine ⟨by omega, ⟨by omega, by omega, by omega⟩, by simp [withS], by simp [withS, enc_fld]⟩
def tb_specWith : List Blk → List AV → Option (List Blk × AV × Prop)
  | [], [a0, .str n, .str v] => some ([.cells 2 false (.agg [.str [], .str []]) ((withS (dec_flds a0) n v).map enc_fld)], .ref 0 0 (withS (dec_flds a0) n v).length (withS (dec_flds a0) n v).length, ((dec_flds a0).length ≤ 1000000) ∧ argOK a0 (enc_flds (dec_flds a0)))
  | _, _ => none
theorem tb_specWith_ok : ∀ E args E' res p, tb_specWith E args = some (E', res, p) → p → SpecE Tryd.prog 27 E args E' res := by
  intro E args E' res p h hp
  unfold tb_specWith at h
  split at h
  · simp only [Option.some.injEq, Prod.mk.injEq] at h
    obtain ⟨rfl, rfl, rfl⟩ := h
    exact SpecE.args (specWith _ _ _ hp.1) (.cons hp.2 (.cons (argOK.refl _) (.cons (argOK.refl _) .nil)))
  · cases h
end Go.Proofs.Tryd.HdrR
end
section
set_option linter.unusedVariables false
set_option linter.unusedSimpArgs false
namespace Go.Mdl
open Go Go.Abs
theorem dec_fld_mk (a b : List UInt8) : dec_fld (.agg [.str a, .str b]) = (a, b) := rfl
end Go.Mdl
namespace Go.Proofs.Tryd.HdrR
open Go Go.Abs Go.Proofs Go.Mdl
def T_specAll : Tbl := fun g E args => (addT nilT 49 Go.Proofs.Tryd.HdrR.tb_specIs) g E args
theorem T_specAll_ok : TblOK Tryd.prog T_specAll := (addT_ok nilT_ok (by decide +kernel) Go.Proofs.Tryd.HdrR.tb_specIs_ok)
set_option maxRecDepth 100000 in
set_option maxHeartbeats 4000000 in
theorem specAll (l : List Fld) (name : List UInt8) (hl : l.length ≤ 1000000) (hn : name.length ≤ 1000000) (hf : ∀ f ∈ l, f.1.length ≤ 1000000) : SpecE Tryd.prog 21 [] [enc_flds l, .str name] [] (enc_strs (allS l name)) := by
  refine specF0 (C := T_specAll) (wr := false) (D := fun _ => []) (U := fun _ => none) (res := [enc_strs (allS l name)]) Tryd.Ty.mixed T_specAll_ok Tryd.func21 (nA := 2) (by decide +kernel) rfl (fun _ => rfl) ?_
  simp only [Tryd.f21, bodyOf, rlOf]
  rw [W_V]
  simp (config := {maxSteps := 2000000}) only [T_specAll, Go.Proofs.Tryd.HdrR.tb_specIs, go_sem, seval, true_and]
  (try simp (config := {maxSteps := 2000000}) only [gimp, impB, isT, go_sem, seval])
  refine VL_inv (X := Nat) (fun k => ⟨[(0, enc_flds l), (1, .str name), (5, .ref 128 0 (allS (l.take k) name).length (allS (l.take k) name).length), (6, .int .i64 k)], [(128, .cells 1 false (.str []) ((allS (l.take k) name).map .str))]⟩) (fun k => k ≤ l.length) (fun k => l.length - k) 0 ?_ ?_ ?_
  · simp only [allS, List.take_zero, List.filter_nil, go_sem, go_sem, seval]
    try rfl
  · exact Nat.zero_le _
  rintro k hk
  simp (config := {maxSteps := 2000000}) only [T_specAll, Go.Proofs.Tryd.HdrR.tb_specIs, go_sem, seval, true_and]
  (try simp (config := {maxSteps := 2000000}) only [gimp, impB, isT, go_sem, seval])
  have hs := fun h : k < l.length => allS_take_succ (l := l) name h
  have hle := allS_len (l.take k) name
  have hlt' : (l.take k).length ≤ 1000000 := by rw [List.length_take]; omega
  have hi : isN [name] (l.getD k ([], [])) = true ↔ lowerS (l.getD k ([], [])).1 = lowerS name := by rw [isN_one]; simp [foldS, eq_comm]
  refine ⟨fun hlt => ⟨by omega, ⟨hf _ (List.mem_of_getElem? (getD_of_lt (s := l) (d := ([], [])) (by omega))), hn⟩, fun hy => ⟨by omega, by omega, by omega, k + 1, ⟨⟨?_, by omega⟩, ?_⟩, by omega, by omega⟩, fun hno => ⟨by omega, k + 1, ⟨⟨?_, by omega⟩, ?_⟩, by omega, by omega⟩⟩, fun hge => ?_⟩
  · rw [hs (by omega), if_pos (hi.2 hy)]; simp
  · rw [hs (by omega), if_pos (hi.2 hy)]; simp
  · rw [hs (by omega), if_neg (fun h => hno (hi.1 h))]; simp
  · rw [hs (by omega), if_neg (fun h => hno (hi.1 h))]; simp
  · rw [List.take_length, List.take_of_length_le (by omega)]
def tb_specAll : List Blk → List AV → Option (List Blk × AV × Prop)
  | [], [a0, .str name] => some ([], enc_strs (allS (dec_flds a0) name), ((dec_flds a0).length ≤ 1000000) ∧ (name.length ≤ 1000000) ∧ (∀ f ∈ (dec_flds a0), f.1.length ≤ 1000000) ∧ argOK a0 (enc_flds (dec_flds a0)))
  | _, _ => none
theorem tb_specAll_ok : ∀ E args E' res p, tb_specAll E args = some (E', res, p) → p → SpecE Tryd.prog 21 E args E' res := by
  intro E args E' res p h hp
  unfold tb_specAll at h
  split at h
  · simp only [Option.some.injEq, Prod.mk.injEq] at h
    obtain ⟨rfl, rfl, rfl⟩ := h
    exact SpecE.args (specAll _ _ hp.1 hp.2.1 hp.2.2.1) (.cons hp.2.2.2 (.cons (argOK.refl _) .nil))
  · cases h
def T_specWithoutR : Tbl := fun g E args => (addT nilT 49 Go.Proofs.Tryd.HdrR.tb_specIs) g E args
theorem T_specWithoutR_ok : TblOK Tryd.prog T_specWithoutR := (addT_ok nilT_ok (by decide +kernel) Go.Proofs.Tryd.HdrR.tb_specIs_ok)
set_option maxRecDepth 100000 in
set_option maxHeartbeats 4000000 in
theorem specWithoutR (l : List Fld) (names : List (List UInt8)) (hl : l.length ≤ 1000000) (hn : names.length ≤ 1000000) (hf : ∀ f ∈ l, f.1.length ≤ 1000000) (hq : ∀ x ∈ names, x.length ≤ 1000000) : SpecE Tryd.prog 28 [] [enc_flds l, enc_strs names] [] (enc_flds (withoutS l names)) := by
  refine specF0 (C := T_specWithoutR) (wr := false) (D := fun _ => []) (U := fun _ => none) (res := [enc_flds (withoutS l names)]) Tryd.Ty.mixed T_specWithoutR_ok Tryd.func28 (nA := 2) (by decide +kernel) rfl (fun _ => rfl) ?_
  simp only [Tryd.f28, bodyOf, rlOf]
  rw [W_V]
  simp (config := {maxSteps := 2000000}) only [T_specWithoutR, Go.Proofs.Tryd.HdrR.tb_specIs, go_sem, seval, true_and]
  (try simp (config := {maxSteps := 2000000}) only [gimp, impB, isT, go_sem, seval])
  refine VL_inv (X := Nat) (fun k => ⟨[(0, enc_flds l), (1, enc_strs names), (5, .ref 160 0 (withoutS (l.take k) names).length (withoutS (l.take k) names).length), (6, .int .i64 k)], [(160, .cells 2 false (.agg [.str [], .str []]) ((withoutS (l.take k) names).map enc_fld))]⟩) (fun k => k ≤ l.length) (fun k => l.length - k) 0 ?_ ?_ ?_
  · simp only [withoutS, List.take_zero, List.filter_nil, go_sem, go_sem, seval]
    try rfl
  · exact Nat.zero_le _
  rintro k hk
  simp (config := {maxSteps := 2000000}) only [T_specWithoutR, Go.Proofs.Tryd.HdrR.tb_specIs, go_sem, seval, true_and]
  (try simp (config := {maxSteps := 2000000}) only [gimp, impB, isT, go_sem, seval])
  have hle := without_len (l.take k) names
  have hlt' : (l.take k).length ≤ 1000000 := by rw [List.length_take]; omega
  refine ⟨fun hlt => ?_, fun hge => ?_⟩
  · refine VL_inv (X := Nat) (fun j => ⟨[(0, enc_flds l), (1, enc_strs names), (5, .ref 160 0 (withoutS (l.take k) names).length (withoutS (l.take k) names).length), (6, .int .i64 k), (7, .bool (isN (names.take j) (l.getD k ([], [])))), (8, .int .i64 j)], [(160, .cells 2 false (.agg [.str [], .str []]) ((withoutS (l.take k) names).map enc_fld))]⟩) (fun j => j ≤ names.length) (fun j => names.length - j) 0 ?_ ?_ ?_
    · simp only [isN, List.take_zero, List.any_nil, go_sem, go_sem, seval]
      try rfl
    · exact Nat.zero_le _
    rintro j hj
    simp (config := {maxSteps := 2000000}) only [T_specWithoutR, Go.Proofs.Tryd.HdrR.tb_specIs, go_sem, seval, true_and]
    (try simp (config := {maxSteps := 2000000}) only [gimp, impB, isT, go_sem, seval])
    have hs := fun h : k < l.length => without_take_succ (l := l) names h
    have hf1 : (l.getD k ([], [])).1.length ≤ 1000000 := hf _ (List.mem_of_getElem? (getD_of_lt (s := l) (d := ([], [])) (by omega)))
    have hq1 : ∀ j, j < names.length → (names.getD j []).length ≤ 1000000 := fun j h => hq _ (List.mem_of_getElem? (getD_of_lt (s := names) (d := []) h))
    refine ⟨fun hlt2 => ⟨⟨fun _ => by omega, fun _ => by omega⟩, ⟨fun _ => by omega, fun _ => by omega⟩, ⟨fun _ => hf1, fun _ => hq1 j (by omega)⟩, by omega, j + 1, ⟨?_, by omega⟩, by omega, by omega⟩, fun hge2 => ?_⟩
    · rw [isN_take_succ _ (by omega), foldS]; simp only [eq_comm]
    · have hj2 : names.take j = names := List.take_of_length_le (by omega)
      rw [hj2]
      refine ⟨fun hno => ⟨by omega, by omega, by omega, k + 1, ⟨⟨?_, by omega⟩, ?_⟩, by omega, by omega⟩, fun hy => ⟨by omega, k + 1, ⟨⟨?_, by omega⟩, ?_⟩, by omega, by omega⟩⟩
      · rw [hs (by omega), if_neg (by rw [hno]; simp)]; simp
      · rw [hs (by omega), if_neg (by rw [hno]; simp)]; simp [enc_fld]
      · rw [hs (by omega), if_pos hy]; simp
      · rw [hs (by omega), if_pos hy]; simp
  · rw [List.take_length, List.take_of_length_le (by omega)]
def tb_specWithoutR : List Blk → List AV → Option (List Blk × AV × Prop)
  | [], [a0, a1] => some ([], enc_flds (withoutS (dec_flds a0) (dec_strs a1)), ((dec_flds a0).length ≤ 1000000) ∧ ((dec_strs a1).length ≤ 1000000) ∧ (∀ f ∈ (dec_flds a0), f.1.length ≤ 1000000) ∧ (∀ x ∈ (dec_strs a1), x.length ≤ 1000000) ∧ argOK a0 (enc_flds (dec_flds a0)) ∧ argOK a1 (enc_strs (dec_strs a1)))
  | _, _ => none
theorem tb_specWithoutR_ok : ∀ E args E' res p, tb_specWithoutR E args = some (E', res, p) → p → SpecE Tryd.prog 28 E args E' res := by
  intro E args E' res p h hp
  unfold tb_specWithoutR at h
  split at h
  · simp only [Option.some.injEq, Prod.mk.injEq] at h
    obtain ⟨rfl, rfl, rfl⟩ := h
    exact SpecE.args (specWithoutR _ _ hp.1 hp.2.1 hp.2.2.1 hp.2.2.2.1) (.cons hp.2.2.2.2.1 (.cons hp.2.2.2.2.2 .nil))
  · cases h
end Go.Proofs.Tryd.HdrR
end
section
set_option linter.unusedVariables false
set_option linter.unusedSimpArgs false
namespace Go.Proofs.Tryd.Len
open Go Go.Abs Go.Proofs Go.Mdl
theorem lenBad_iff (f : Int) (p : List UInt8) : lenBad f p = true ↔ ¬ numErr 10 2147483647 p = 0 ∨ 0 ≤ f ∧ ¬ numVal 10 2147483647 p = f := by
  simp only [lenBad, lenMax]
  by_cases h1 : numErr 10 2147483647 p = 0 <;> by_cases h2 : 0 ≤ f <;> by_cases h3 : numVal 10 2147483647 p = f <;> simp [h1, h2, h3]
noncomputable def T_specOf : Tbl := fun g E args => (addT (addT pT 19 Go.Proofs.Tryd.Hdr.tb_specAll) 18 Go.Proofs.Tryd.Len.tb_specParts) g E args
theorem T_specOf_ok : TblOK Tryd.prog T_specOf := (addT_ok (addT_ok pT_ok (by decide +kernel) Go.Proofs.Tryd.Hdr.tb_specAll_ok) (by decide +kernel) Go.Proofs.Tryd.Len.tb_specParts_ok)
set_option maxRecDepth 100000 in
set_option maxHeartbeats 4000000 in
theorem specOf (l : List Fld) (hl : l.length ≤ 1000) (hv : ∀ x ∈ l, x.2.length ≤ 1000000) : SpecE Tryd.prog 8 [] [enc_flds l] [] (.tuple [.int .i64 (lenN l), .bool (lenHas l), .int .i64 (lenErr l)]) := by
  refine specFEM (C := T_specOf) (wr := false) (D := fun i => if i = dN then [34] else if i = 8 then [4, 5, 6, 10096, 30096, 50096, 60096, 70096] else []) (U := fun _ => none) (E := []) (E' := []) (res := [.int .i64 (lenN l), .bool (lenHas l), .int .i64 (lenErr l)]) [] Tryd.Ty.mixed T_specOf_ok Tryd.func8 (args := [enc_flds l]) (nE := 0) (nA := 1) (by decide +kernel) rfl rfl ?_
  simp only [Tryd.f8, bodyOf, rlOf]
  rw [W_V]
  simp (config := {maxSteps := 2000000}) only [T_specOf, Go.Proofs.Tryd.Hdr.tb_specAll, Go.Proofs.Tryd.Len.tb_specParts, go_sem, seval, pT, tb_partsF, recO, lsS_f, lsP_f, FinEM, FinEvM]
  (try simp (config := {maxSteps := 2000000}) only [gimp, impB, isT, go_sem, seval])
  refine ⟨⟨hl, by decide⟩, ?_⟩
  rw [show allS l [67, 111, 110, 116, 101, 110, 116, 45, 76, 101, 110, 103, 116, 104] = lenVs l from rfl]
  refine VR_intro ⟨[(11, .clo 44 0 [.ptr 192 0 0 1]), (2, .ptr 48 0 0 1), (3, .ptr 64 0 0 1), (4, .ptr 80 0 0 1), (5, .ptr 96 0 0 1)],
    [(192, valsB (lenVs l)), (48, intB 0), (64, boolB false), (80, intB 0), (96, intB (-1))]⟩ lcO ?_ rfl rfl rfl rfl ?_
  · simp only [T_specOf, Go.Proofs.Tryd.Hdr.tb_specAll, Go.Proofs.Tryd.Len.tb_specParts, go_sem, seval, pT, tb_partsF, recO, lsS_f, lsP_f, FinEM, FinEvM, valsB, intB, boolB, enc_strs]
  have h1 : (lenVs l).length ≤ 1000000 := by have := allS_len l lenCL; unfold lenVs; omega
  have h2 : ∀ x ∈ lenVs l, x.length ≤ 1000000 := fun x hx => by obtain ⟨f, hf, rfl, _⟩ := allS_mem hx; exact hv f hf
  have hm := map_str_toStr (lenVs l)
  have hr := lenF_range (f := -1) (lenAll (lenVs l)) (by decide)
  unfold lenMax at hr
  by_cases hb : lenB (-1) (lenAll (lenVs l)) = true
  · simp only [T_specOf, Go.Proofs.Tryd.Hdr.tb_specAll, Go.Proofs.Tryd.Len.tb_specParts, go_sem, seval, pT, tb_partsF, recO, lsS_f, lsP_f, FinEM, FinEvM, valsB, intB, boolB, enc_strs, hm, lenN, lenHas, lenErr, lenWrong, lenNum, hb, lsS_t, lsP_t, lenE_t]
    exact ⟨by decide +kernel, ⟨h1, h2⟩, fun b h => by cases h; rfl⟩
  · rw [Bool.not_eq_true] at hb
    simp only [T_specOf, Go.Proofs.Tryd.Hdr.tb_specAll, Go.Proofs.Tryd.Len.tb_specParts, go_sem, seval, pT, tb_partsF, recO, lsS_f, lsP_f, FinEM, FinEvM, valsB, intB, boolB, enc_strs, hm, lenN, lenHas, lenErr, lenWrong, lenNum, hb, lsS_f, lsP_f, lenE_f]
    exact ⟨by decide +kernel, ⟨h1, h2⟩, rfl, fun b h => by cases h; rfl⟩
def tb_specOf : List Blk → List AV → Option (List Blk × AV × Prop)
  | [], [a0] => some ([], .tuple [.int .i64 (lenN (dec_flds a0)), .bool (lenHas (dec_flds a0)), .int .i64 (lenErr (dec_flds a0))], ((dec_flds a0).length ≤ 1000) ∧ (∀ x ∈ (dec_flds a0), x.2.length ≤ 1000000) ∧ argOK a0 (enc_flds (dec_flds a0)))
  | _, _ => none
theorem tb_specOf_ok : ∀ E args E' res p, tb_specOf E args = some (E', res, p) → p → SpecE Tryd.prog 8 E args E' res := by
  intro E args E' res p h hp
  unfold tb_specOf at h
  split at h
  · simp only [Option.some.injEq, Prod.mk.injEq] at h
    obtain ⟨rfl, rfl, rfl⟩ := h
    exact SpecE.args (specOf _ hp.1 hp.2.1) (.cons hp.2.2 .nil)
  · cases h
def T_specSet : Tbl := fun g E args => (addT (addT (addT nilT 25 Go.Proofs.Tryd.Hdr.tb_specWithout) 26 Go.Proofs.Tryd.Dig.tb_specText) 24 Go.Proofs.Tryd.Hdr.tb_specWith) g E args
theorem T_specSet_ok : TblOK Tryd.prog T_specSet := (addT_ok (addT_ok (addT_ok nilT_ok (by decide +kernel) Go.Proofs.Tryd.Hdr.tb_specWithout_ok) (by decide +kernel) Go.Proofs.Tryd.Dig.tb_specText_ok) (by decide +kernel) Go.Proofs.Tryd.Hdr.tb_specWith_ok)
set_option maxRecDepth 100000 in
set_option maxHeartbeats 4000000 in
theorem specSet (l : List Fld) (n : Int) (hl : l.length ≤ 1000) (hn : inR .i64 n) : SpecE Tryd.prog 11 [] [enc_flds l, .int .i64 n] [.cells 2 false (.agg [.str [], .str []]) ((lenSet l n).map enc_fld)] (.ref 0 0 (lenSet l n).length (lenSet l n).length) := by
  refine specFE (C := T_specSet) (wr := false) (D := fun _ => []) (U := fun _ => none) (E := []) (E' := [.cells 2 false (.agg [.str [], .str []]) ((lenSet l n).map enc_fld)]) (res := [.ref 0 0 (lenSet l n).length (lenSet l n).length]) [176] Tryd.Ty.mixed T_specSet_ok Tryd.func11 (args := [enc_flds l, .int .i64 n]) (nE := 0) (nA := 2) (by decide +kernel) rfl rfl ?_
  simp only [Tryd.f11, bodyOf, rlOf]
  rw [W_V]
  simp (config := {maxSteps := 2000000}) only [T_specSet, Go.Proofs.Tryd.Hdr.tb_specWithout, Go.Proofs.Tryd.Dig.tb_specText, Go.Proofs.Tryd.Hdr.tb_specWith, go_sem, seval, dec_fld_mk]
  (try simp (config := {maxSteps := 2000000}) only [gimp, impB, isT, go_sem, seval])
  have hd : (List.take (withoutS l [lenCL]).length (delP ([], []) (isN [lenCL]) l)) = withoutS l [lenCL] := delP_take _ _ _
  rw [show [67, 111, 110, 116, 101, 110, 116, 45, 76, 101, 110, 103, 116, 104] = lenCL from rfl, hd, delP_len]
  have hw := without_len l [lenCL]
  simp only [inR] at hn
  exact ⟨⟨by omega, by decide, by decide⟩, hn, ⟨rfl, by omega⟩, rfl, rfl⟩
def tb_specSet : List Blk → List AV → Option (List Blk × AV × Prop)
  | [], [a0, .int .i64 n] => some ([.cells 2 false (.agg [.str [], .str []]) ((lenSet (dec_flds a0) n).map enc_fld)], .ref 0 0 (lenSet (dec_flds a0) n).length (lenSet (dec_flds a0) n).length, ((dec_flds a0).length ≤ 1000) ∧ (inR .i64 n) ∧ argOK a0 (enc_flds (dec_flds a0)))
  | _, _ => none
theorem tb_specSet_ok : ∀ E args E' res p, tb_specSet E args = some (E', res, p) → p → SpecE Tryd.prog 11 E args E' res := by
  intro E args E' res p h hp
  unfold tb_specSet at h
  split at h
  · simp only [Option.some.injEq, Prod.mk.injEq] at h
    obtain ⟨rfl, rfl, rfl⟩ := h
    exact SpecE.args (specSet _ _ hp.1 hp.2.1) (.cons hp.2.2 (.cons (argOK.refl _) .nil))
  · cases h
def T_specPartsR : Tbl := fun g E args => (addT nilT 50 Go.Proofs.Tryd.Oct.tb_specTrimR) g E args
theorem T_specPartsR_ok : TblOK Tryd.prog T_specPartsR := (addT_ok nilT_ok (by decide +kernel) Go.Proofs.Tryd.Oct.tb_specTrimR_ok)
set_option maxRecDepth 100000 in
set_option maxHeartbeats 4000000 in
theorem specPartsR (s : List UInt8) (hs : s.length ≤ 1000000) : SpecE Tryd.prog 22 [] [.str s] [] (enc_strs (lenParts s)) := by
  refine specF0 (C := T_specPartsR) (wr := false) (D := fun _ => []) (U := fun _ => none) (res := [enc_strs (lenParts s)]) Tryd.Ty.mixed T_specPartsR_ok Tryd.func22 (nA := 1) (by decide +kernel) rfl (fun _ => rfl) ?_
  simp only [Tryd.f22, bodyOf, rlOf]
  rw [W_V]
  simp (config := {maxSteps := 2000000}) only [T_specPartsR, Go.Proofs.Tryd.Oct.tb_specTrimR, go_sem, seval]
  (try simp (config := {maxSteps := 2000000}) only [gimp, impB, isT, go_sem, seval])
  refine VL_inv (X := Nat × Nat × List (List UInt8)) (fun x => ⟨[(0, .str s), (3, .ref 112 0 x.2.2.length x.2.2.length), (4, .int .i64 x.2.1), (5, .int .i64 x.1)], [(112, .cells 1 false (.str []) (x.2.2.map .str))]⟩)
    (fun x => x.1 ≤ s.length ∧ x.2.1 ≤ x.1 ∧ x.2.2.length ≤ x.2.1 ∧ lenParts s = x.2.2 ++ lenParts (s.drop x.2.1) ∧ ∀ c ∈ (s.take x.1).drop x.2.1, c ≠ 44) (fun x => s.length - x.1) (0, 0, []) ?_ ?_ ?_
  · simp only [T_specPartsR, Go.Proofs.Tryd.Oct.tb_specTrimR, go_sem, seval]
    try rfl
  · exact ⟨Nat.zero_le _, Nat.le_refl _, Nat.le_refl _, rfl, by simp⟩
  rintro ⟨i, f, o⟩ ⟨i1, i2, i3, i4, i5⟩
  simp only at i1 i2 i3 i4 i5
  simp (config := {maxSteps := 2000000}) only [T_specPartsR, Go.Proofs.Tryd.Oct.tb_specTrimR, go_sem, seval]
  (try simp (config := {maxSteps := 2000000}) only [gimp, impB, isT, go_sem, seval])
  have sn : ∀ t, o.map AV.str ++ [AV.str t] = (o ++ [t]).map AV.str := fun t => by rw [List.map_append]; rfl
  simp only [sn]
  have dl : (s.drop i).length = s.length - i := List.length_drop ..
  refine ⟨fun hlt => ⟨by omega, fun hc => ⟨by omega, ?_, by omega, by omega, by omega, (i + 1, i + 1, o ++ [trimS ((s.take i).drop f)]), ⟨⟨by simp, by simp, by simp⟩, rfl⟩, ⟨by simp only; omega, Nat.le_refl _, by simp only [List.length_append, List.length_singleton]; omega, ?_, ?_⟩, by simp only; omega⟩, fun hc => ⟨by omega, (i + 1, f, o), ⟨⟨rfl, rfl, by simp⟩, rfl⟩, ⟨by simp only; omega, by simp only; omega, by simp only; omega, i4, spl_next (by omega) i2 hc i5⟩, by simp only; omega⟩⟩, fun hge => ⟨by omega, ?_, by omega, ?_, by simp⟩⟩
  · have hmx : (1000000 : Nat) ≤ maxLen := by decide
    rw [List.length_drop, List.length_take]; omega
  · simp only; rw [i4, lenParts, spl_step (by omega) i2 hc i5, List.append_assoc]; rfl
  · simp only
    rw [List.drop_eq_nil_of_le (by rw [List.length_take]; omega)]
    simp
  · have hmx : (1000000 : Nat) ≤ maxLen := by decide
    rw [List.length_drop]; omega
  · have e : i = s.length := by omega
    subst e
    rw [List.take_length] at i5
    rw [i4, lenParts, splitB_no i5, List.take_of_length_le (by simp)]; rfl
def tb_specPartsR : List Blk → List AV → Option (List Blk × AV × Prop)
  | [], [.str s] => some ([], enc_strs (lenParts s), (s.length ≤ 1000000))
  | _, _ => none
theorem tb_specPartsR_ok : ∀ E args E' res p, tb_specPartsR E args = some (E', res, p) → p → SpecE Tryd.prog 22 E args E' res := by
  intro E args E' res p h hp
  unfold tb_specPartsR at h
  split at h
  · simp only [Option.some.injEq, Prod.mk.injEq] at h
    obtain ⟨rfl, rfl, rfl⟩ := h
    exact (specPartsR _ hp)
  · cases h
def T_specOfR : Tbl := fun g E args => (addT (addT (addT nilT 21 Go.Proofs.Tryd.HdrR.tb_specAll) 22 Go.Proofs.Tryd.Len.tb_specPartsR) 23 Go.Proofs.Tryd.Dig.tb_specNumberR) g E args
theorem T_specOfR_ok : TblOK Tryd.prog T_specOfR := (addT_ok (addT_ok (addT_ok nilT_ok (by decide +kernel) Go.Proofs.Tryd.HdrR.tb_specAll_ok) (by decide +kernel) Go.Proofs.Tryd.Len.tb_specPartsR_ok) (by decide +kernel) Go.Proofs.Tryd.Dig.tb_specNumberR_ok)
set_option maxRecDepth 100000 in
set_option maxHeartbeats 4000000 in
theorem specOfR (l : List Fld) (hl : l.length ≤ 1000) (hf : ∀ f ∈ l, f.1.length ≤ 1000000) (hv : ∀ x ∈ l, x.2.length ≤ 1000) : SpecE Tryd.prog 9 [] [enc_flds l] [] (.tuple [.int .i64 (lenN l), .bool (lenHas l), .int .i64 (lenErr l)]) := by
  refine specF0 (C := T_specOfR) (wr := false) (D := fun _ => []) (U := fun _ => none) (res := [.int .i64 (lenN l), .bool (lenHas l), .int .i64 (lenErr l)]) Tryd.Ty.mixed T_specOfR_ok Tryd.func9 (nA := 1) (by decide +kernel) rfl (fun _ => rfl) ?_
  simp only [Tryd.f9, bodyOf, rlOf]
  rw [W_V]
  simp (config := {maxSteps := 2000000}) only [T_specOfR, Go.Proofs.Tryd.HdrR.tb_specAll, Go.Proofs.Tryd.Len.tb_specPartsR, Go.Proofs.Tryd.Dig.tb_specNumberR, go_sem, seval]
  (try simp (config := {maxSteps := 2000000}) only [gimp, impB, isT, go_sem, seval])
  rw [show allS l [67, 111, 110, 116, 101, 110, 116, 45, 76, 101, 110, 103, 116, 104] = lenVs l from rfl]
  have h1 : (lenVs l).length ≤ 1000 := by have := allS_len l lenCL; unfold lenVs; omega
  have h2 : ∀ x ∈ lenVs l, x.length ≤ 1000 := fun x hx => by obtain ⟨f, hf, rfl, _⟩ := allS_mem hx; exact hv f hf
  have hN : lenN l = if lenB (-1) (lenAll (lenVs l)) = true then 0 else max (lenF (-1) (lenAll (lenVs l))) 0 := rfl
  have hH : lenHas l = (!lenB (-1) (lenAll (lenVs l)) && decide (0 ≤ lenF (-1) (lenAll (lenVs l)))) := rfl
  have hE : lenErr l = if lenB (-1) (lenAll (lenVs l)) = true then 14 else 0 := rfl
  rw [hN, hH, hE]
  generalize lenVs l = vs at *
  refine ⟨⟨by omega, hf⟩, ?_⟩
  have hp : ∀ x ∈ vs, (lenParts x).length ≤ 1001 := fun x hx => by
    have := splitB_len 44 x
    have := cntB_le 44 x
    have := h2 x hx
    rw [lenParts, List.length_map]; omega
  refine VL_inv (X := Nat) (fun k => ⟨[(5, enc_strs vs), (6, .ref 240 0 (lenAll (vs.take k)).length (lenAll (vs.take k)).length), (7, .int .i64 k)], [(240, .cells 1 false (.str []) ((lenAll (vs.take k)).map .str))]⟩)
    (fun k => k ≤ vs.length ∧ (lenAll (vs.take k)).length ≤ 1001 * k) (fun k => vs.length - k) 0 ?_ ?_ ?_
  · simp only [T_specOfR, Go.Proofs.Tryd.HdrR.tb_specAll, Go.Proofs.Tryd.Len.tb_specPartsR, Go.Proofs.Tryd.Dig.tb_specNumberR, go_sem, seval]
    exact ⟨rfl, rfl⟩
  · exact ⟨Nat.zero_le _, by simp [lenAll]⟩
  rintro k ⟨i1, i2⟩
  simp (config := {maxSteps := 2000000}) only [T_specOfR, Go.Proofs.Tryd.HdrR.tb_specAll, Go.Proofs.Tryd.Len.tb_specPartsR, Go.Proofs.Tryd.Dig.tb_specNumberR, go_sem, seval]
  (try simp (config := {maxSteps := 2000000}) only [gimp, impB, isT, go_sem, seval])
  have hx : k < vs.length → (vs.getD k []).length ≤ 1000 ∧ (lenParts (vs.getD k [])).length ≤ 1001 := fun h => by
    have hm := List.mem_of_getElem? (getD_of_lt (s := vs) (d := []) h)
    exact ⟨h2 _ hm, hp _ hm⟩
  refine ⟨fun hlt => ?_, fun hge => ?_⟩
  · obtain ⟨x1, x2⟩ := hx (by omega)
    have ht : lenAll (vs.take (k + 1)) = lenAll (vs.take k) ++ lenParts (vs.getD k []) := by
      rw [take_succ_getD [] (by omega), lenAll, List.flatMap_append]; simp [lenAll]
    refine ⟨by omega, by omega, by omega, by omega, k + 1, ⟨⟨?_, by omega⟩, ?_⟩, ⟨by omega, ?_⟩, by omega⟩
    · rw [ht, List.length_append]
    · rw [ht, List.map_append]
    · rw [ht, List.length_append]; omega
  have e0 : k = vs.length := by omega
  subst e0
  rw [List.take_length] at i2
  rw [List.take_length]
  have hlen : (lenAll vs).length ≤ 1001000 := by omega
  have hmem : ∀ x ∈ lenAll vs, x.length ≤ 1000000 := fun x hx => by
    simp only [lenAll, List.mem_flatMap, lenParts, List.mem_map] at hx
    obtain ⟨v, hv1, w, hw1, rfl⟩ := hx
    have a1 := trimS_len w
    have a2 := splitB_mem_len hw1
    have a3 := h2 v hv1
    omega
  generalize lenAll vs = ps at *
  refine VL_inv (X := Nat × Int) (fun y => ⟨[(6, .ref 240 0 ps.length ps.length), (8, .int .i64 y.2), (9, .int .i64 y.1)], [(240, .cells 1 false (.str []) (ps.map .str))]⟩)
    (fun y => y.1 ≤ ps.length ∧ lenB (-1) (ps.take y.1) = false ∧ (y.1 = 0 → y.2 = 0) ∧ (0 < y.1 → y.2 = lenF (-1) (ps.take y.1))) (fun y => ps.length - y.1) (0, 0) ?_ ?_ ?_
  · simp only [T_specOfR, Go.Proofs.Tryd.HdrR.tb_specAll, Go.Proofs.Tryd.Len.tb_specPartsR, Go.Proofs.Tryd.Dig.tb_specNumberR, go_sem, seval]
    try exact ⟨rfl, rfl⟩
  · exact ⟨Nat.zero_le _, rfl, fun _ => rfl, fun h => absurd h (by decide)⟩
  rintro ⟨i, n⟩ ⟨j1, j2, j3, j4⟩
  simp only at j1 j2 j3 j4
  simp (config := {maxSteps := 2000000}) only [T_specOfR, Go.Proofs.Tryd.HdrR.tb_specAll, Go.Proofs.Tryd.Len.tb_specPartsR, Go.Proofs.Tryd.Dig.tb_specNumberR, go_sem, seval]
  (try simp (config := {maxSteps := 2000000}) only [gimp, impB, isT, go_sem, seval])
  rw [Nat.zero_add]
  have hs : i < ps.length → ps.take (i + 1) = ps.take i ++ [ps.getD i []] := fun h => take_succ_getD [] h
  have hx : i < ps.length → (ps.getD i []).length ≤ 1000000 := fun h => hmem _ (List.mem_of_getElem? (getD_of_lt (s := ps) (d := []) h))
  have hz : i < ps.length → ps = ps.take (i + 1) ++ ps.drop (i + 1) := fun _ => (List.take_append_drop _ _).symm
  generalize ps.getD i [] = p at *
  have hq : lenBad (lenF (-1) (ps.take i)) p = true ↔ (¬numErr 10 2147483647 p = 0 ∨ 0 < (i : Int) ∧ ¬numVal 10 2147483647 p = n) := by
    rw [lenBad_iff]
    rcases Nat.eq_zero_or_pos i with h | h
    · subst h
      simp only [List.take_zero, lenF]
      constructor
      · rintro (h | ⟨h, _⟩)
        · exact .inl h
        · omega
      · rintro (h | ⟨h, _⟩)
        · exact .inl h
        · omega
    · have hne : ps.take i ≠ [] := fun e => by
        have := congrArg List.length e
        rw [List.length_take] at this
        simp only [List.length_nil] at this
        omega
      have h0 := lenF_pos (-1) (ps.take i) hne j2
      rw [← j4 h] at h0 ⊢
      have hi : (0 : Int) < i := by omega
      simp only [h0, hi, true_and]
  refine ⟨fun hlt => ⟨by omega, by omega, hx (by omega), fun hb => ?_, fun hg1 hg2 => ?_⟩, fun hge => ?_⟩
  · have hb' := hq.2 hb
    have b1 : lenB (-1) (ps.take (i + 1)) = true := by
      rw [hs (by omega), (lenB_post j2).1]; simp [lenB, hb']
    have b2 : lenB (-1) ps = true := by rw [hz (by omega)]; exact (lenB_pre b1).1
    rw [b2]
    exact ⟨rfl, rfl, rfl⟩
  · have hb' : lenBad (lenF (-1) (ps.take i)) p = false := by
      rw [← Bool.not_eq_true, hq, not_or]
      refine ⟨Decidable.not_not.2 hg1, fun ⟨e1, e2⟩ => ?_⟩
      rw [decide_eq_true e1, decide_eq_false e2] at hg2; cases hg2
    have b1 : lenB (-1) (ps.take (i + 1)) = false := by
      rw [hs (by omega), (lenB_post j2).1]; simp [lenB, hb']
    have b2 : lenF (-1) (ps.take (i + 1)) = numVal 10 2147483647 p := by
      rw [hs (by omega), (lenB_post j2).2]
      simp only [lenF, hb', Bool.false_eq_true, if_false]
      exact lenNext_good hb'
    exact ⟨by omega, (i + 1, numVal 10 2147483647 p), ⟨rfl, by simp⟩, ⟨by simp only; omega, b1, fun h => by simp at h, fun _ => b2.symm⟩, by simp only; omega⟩
  · have e1 : i = ps.length := by omega
    subst e1
    rw [List.take_length] at j2 j4
    rw [j2]
    rcases Nat.eq_zero_or_pos ps.length with h | h
    · have : ps = [] := List.eq_nil_of_length_eq_zero h
      subst this
      rw [j3 rfl]
      exact ⟨rfl, rfl, rfl⟩
    · have h0 := lenF_pos (-1) ps (fun e => by rw [e] at h; exact absurd h (by decide)) j2
      rw [j4 h]
      refine ⟨?_, ?_, rfl⟩
      · simp only [Bool.false_eq_true, if_false]; omega
      · simp [h0, h]
def tb_specOfR : List Blk → List AV → Option (List Blk × AV × Prop)
  | [], [a0] => some ([], .tuple [.int .i64 (lenN (dec_flds a0)), .bool (lenHas (dec_flds a0)), .int .i64 (lenErr (dec_flds a0))], ((dec_flds a0).length ≤ 1000) ∧ (∀ f ∈ (dec_flds a0), f.1.length ≤ 1000000) ∧ (∀ x ∈ (dec_flds a0), x.2.length ≤ 1000) ∧ argOK a0 (enc_flds (dec_flds a0)))
  | _, _ => none
theorem tb_specOfR_ok : ∀ E args E' res p, tb_specOfR E args = some (E', res, p) → p → SpecE Tryd.prog 9 E args E' res := by
  intro E args E' res p h hp
  unfold tb_specOfR at h
  split at h
  · simp only [Option.some.injEq, Prod.mk.injEq] at h
    obtain ⟨rfl, rfl, rfl⟩ := h
    exact SpecE.args (specOfR _ hp.1 hp.2.1 hp.2.2.1) (.cons hp.2.2.2 .nil)
  · cases h
def T_specSetR : Tbl := fun g E args => (addT (addT (addT nilT 28 Go.Proofs.Tryd.HdrR.tb_specWithoutR) 29 Go.Proofs.Tryd.Dig.tb_specTextR) 27 Go.Proofs.Tryd.HdrR.tb_specWith) g E args
theorem T_specSetR_ok : TblOK Tryd.prog T_specSetR := (addT_ok (addT_ok (addT_ok nilT_ok (by decide +kernel) Go.Proofs.Tryd.HdrR.tb_specWithoutR_ok) (by decide +kernel) Go.Proofs.Tryd.Dig.tb_specTextR_ok) (by decide +kernel) Go.Proofs.Tryd.HdrR.tb_specWith_ok)
set_option maxRecDepth 100000 in
set_option maxHeartbeats 4000000 in
theorem specSetR (l : List Fld) (n : Int) (hl : l.length ≤ 1000) (hf : ∀ f ∈ l, f.1.length ≤ 1000000) (hn : inR .i64 n) : SpecE Tryd.prog 12 [] [enc_flds l, .int .i64 n] [.cells 2 false (.agg [.str [], .str []]) ((lenSet l n).map enc_fld)] (.ref 0 0 (lenSet l n).length (lenSet l n).length) := by
  refine specFE (C := T_specSetR) (wr := false) (D := fun _ => []) (U := fun _ => none) (E := []) (E' := [.cells 2 false (.agg [.str [], .str []]) ((lenSet l n).map enc_fld)]) (res := [.ref 0 0 (lenSet l n).length (lenSet l n).length]) [176] Tryd.Ty.mixed T_specSetR_ok Tryd.func12 (args := [enc_flds l, .int .i64 n]) (nE := 0) (nA := 2) (by decide +kernel) rfl rfl ?_
  simp only [Tryd.f12, bodyOf, rlOf]
  rw [W_V]
  simp (config := {maxSteps := 2000000}) only [T_specSetR, Go.Proofs.Tryd.HdrR.tb_specWithoutR, Go.Proofs.Tryd.Dig.tb_specTextR, Go.Proofs.Tryd.HdrR.tb_specWith, go_sem, seval, dec_fld_mk]
  (try simp (config := {maxSteps := 2000000}) only [gimp, impB, isT, go_sem, seval])
  rw [show [67, 111, 110, 116, 101, 110, 116, 45, 76, 101, 110, 103, 116, 104] = lenCL from rfl]
  have hw := without_len l [lenCL]
  simp only [inR] at hn
  exact ⟨⟨by omega, hf⟩, hn, by omega, rfl, rfl⟩
def tb_specSetR : List Blk → List AV → Option (List Blk × AV × Prop)
  | [], [a0, .int .i64 n] => some ([.cells 2 false (.agg [.str [], .str []]) ((lenSet (dec_flds a0) n).map enc_fld)], .ref 0 0 (lenSet (dec_flds a0) n).length (lenSet (dec_flds a0) n).length, ((dec_flds a0).length ≤ 1000) ∧ (∀ f ∈ (dec_flds a0), f.1.length ≤ 1000000) ∧ (inR .i64 n) ∧ argOK a0 (enc_flds (dec_flds a0)))
  | _, _ => none
theorem tb_specSetR_ok : ∀ E args E' res p, tb_specSetR E args = some (E', res, p) → p → SpecE Tryd.prog 12 E args E' res := by
  intro E args E' res p h hp
  unfold tb_specSetR at h
  split at h
  · simp only [Option.some.injEq, Prod.mk.injEq] at h
    obtain ⟨rfl, rfl, rfl⟩ := h
    exact SpecE.args (specSetR _ _ hp.1 hp.2.1 hp.2.2.1) (.cons hp.2.2.2 (.cons (argOK.refl _) .nil))
  · cases h
def T_specLives : Tbl := fun g E args => (addT nilT 8 Go.Proofs.Tryd.Len.tb_specOf) g E args
theorem T_specLives_ok : TblOK Tryd.prog T_specLives := (addT_ok nilT_ok (by decide +kernel) Go.Proofs.Tryd.Len.tb_specOf_ok)
set_option maxRecDepth 100000 in
set_option maxHeartbeats 4000000 in
theorem specLives : SpecE Tryd.prog 7 [] [] [] (.bool true) := by
  refine specF0 (C := T_specLives) (wr := false) (D := fun _ => []) (U := fun _ => none) (res := [.bool true]) Tryd.Ty.mixed T_specLives_ok Tryd.func7 (nA := 0) (by decide +kernel) rfl (fun _ => rfl) ?_
  simp only [Tryd.f7, bodyOf, rlOf]
  rw [W_V]
  simp (config := {maxSteps := 2000000}) only [T_specLives, Go.Proofs.Tryd.Len.tb_specOf, go_sem, seval, dec_fld_mk]
  (try simp (config := {maxSteps := 2000000}) only [gimp, impB, isT, go_sem, seval])
  decide +kernel
def tb_specLives : List Blk → List AV → Option (List Blk × AV × Prop)
  | [], [] => some ([], .bool true, True)
  | _, _ => none
theorem tb_specLives_ok : ∀ E args E' res p, tb_specLives E args = some (E', res, p) → p → SpecE Tryd.prog 7 E args E' res := by
  intro E args E' res p h hp
  unfold tb_specLives at h
  split at h
  · simp only [Option.some.injEq, Prod.mk.injEq] at h
    obtain ⟨rfl, rfl, rfl⟩ := h
    exact specLives
  · cases h
def T_specLawOf : Tbl := fun g E args => (addT (addT (addT (addT (addT (addT (addT nilT 6 Go.Proofs.Tryd.HdrR.tb_specFew) 8 Go.Proofs.Tryd.Len.tb_specOf) 9 Go.Proofs.Tryd.Len.tb_specOfR) 11 Go.Proofs.Tryd.Len.tb_specSet) 12 Go.Proofs.Tryd.Len.tb_specSetR) 10 Go.Proofs.Tryd.HdrR.tb_specSameF) 7 Go.Proofs.Tryd.Len.tb_specLives) g E args
theorem T_specLawOf_ok : TblOK Tryd.prog T_specLawOf := (addT_ok (addT_ok (addT_ok (addT_ok (addT_ok (addT_ok (addT_ok nilT_ok (by decide +kernel) Go.Proofs.Tryd.HdrR.tb_specFew_ok) (by decide +kernel) Go.Proofs.Tryd.Len.tb_specOf_ok) (by decide +kernel) Go.Proofs.Tryd.Len.tb_specOfR_ok) (by decide +kernel) Go.Proofs.Tryd.Len.tb_specSet_ok) (by decide +kernel) Go.Proofs.Tryd.Len.tb_specSetR_ok) (by decide +kernel) Go.Proofs.Tryd.HdrR.tb_specSameF_ok) (by decide +kernel) Go.Proofs.Tryd.Len.tb_specLives_ok)
set_option maxRecDepth 100000 in
set_option maxHeartbeats 4000000 in
theorem specLawOf (l : List Fld) (k : Int) (hl : l.length ≤ maxLen) (hk : inR .i64 k) : SpecE Tryd.prog 3 [] [enc_flds l, .int .i64 k] [] (.bool true) := by
  refine specF0 (C := T_specLawOf) (wr := false) (D := fun _ => []) (U := fun _ => none) (res := [.bool true]) Tryd.Ty.mixed T_specLawOf_ok Tryd.func3 (nA := 2) (by decide +kernel) rfl (fun _ => rfl) ?_
  simp only [Tryd.f3, bodyOf, rlOf]
  rw [W_V]
  simp (config := {maxSteps := 2000000}) only [T_specLawOf, Go.Proofs.Tryd.HdrR.tb_specFew, Go.Proofs.Tryd.Len.tb_specOf, Go.Proofs.Tryd.Len.tb_specOfR, Go.Proofs.Tryd.Len.tb_specSet, Go.Proofs.Tryd.Len.tb_specSetR, Go.Proofs.Tryd.HdrR.tb_specSameF, Go.Proofs.Tryd.Len.tb_specLives, go_sem, seval, dec_fld_mk]
  (try simp (config := {maxSteps := 2000000}) only [gimp, impB, isT, go_sem, seval])
  refine ⟨hl, fun hfew => ?_⟩
  obtain ⟨f1, f2⟩ := fewF_len hfew
  have c1 : l.length ≤ 1000 := by omega
  have c3 : ∀ f ∈ l, f.1.length ≤ 1000000 := fun f h => by have := (f2 f h).1; omega
  have c4 : ∀ f ∈ l, f.2.length ≤ 1000 := fun f h => by have := (f2 f h).2; omega
  have c5 : ∀ f ∈ l, f.2.length ≤ 1000000 := fun f h => by have := (f2 f h).2; omega
  simp only [inR] at hk
  have c6 : (List.take (lenSet l k).length (lenSet l k)).length ≤ 2147483647 := by
    have := without_len l [lenCL]
    rw [List.take_length, lenSet, List.length_append]; simp only [List.length_singleton]; omega
  exact ⟨⟨c1, c5⟩, ⟨c1, c3, c4⟩, ⟨⟨c1, hk⟩, ⟨⟨c1, c3, hk⟩, c6⟩, fun h => by simp at h⟩, fun h => by simp at h⟩
theorem trimS_free {s : List UInt8} (h : ∀ x ∈ s, blankB x = false) : trimS s = s := by
  obtain ⟨a, b, e, ha, hb⟩ := trim_parts s
  have h1 : a = [] := by
    cases a with
    | nil => rfl
    | cons x r =>
      simp only [List.all_cons, Bool.and_eq_true] at ha
      have := h x (by rw [e]; simp)
      rw [ha.1] at this; cases this
  have h2 : b = [] := by
    cases b with
    | nil => rfl
    | cons x r =>
      simp only [List.all_cons, Bool.and_eq_true] at hb
      have := h x (by rw [e]; simp)
      rw [hb.1] at this; cases this
  subst h1 h2
  simpa using e.symm
theorem lenParts_text {a : Int} (h0 : 0 ≤ a) (h1 : a ≤ 2147483647) : lenParts (textI a) = [textI a] := by
  have hd := text_digits (p := a) h0 (by omega)
  rw [List.all_eq_true] at hd
  rw [lenParts, splitB_no (fun x hx => dig_ne (hd x hx) (by decide))]
  simp only [List.map_cons, List.map_nil]
  rw [trimS_free (fun x hx => ?_)]
  have d1 := dig_ne (x := 32) (hd x hx) (by decide)
  have d2 := dig_ne (x := 9) (hd x hx) (by decide)
  simp [blankB, d1, d2]
theorem lenVs_set (l : List Fld) (a : Int) : lenVs (lenSet l a) = [textI a] := by
  have h : allS (withoutS l [lenCL]) lenCL = [] := by
    simp only [allS, withoutS, List.filter_filter]
    rw [List.filter_eq_nil_iff.2 (fun x _ => by cases isN [lenCL] x <;> simp)]
    rfl
  have h2 : isN [lenCL] (lenCL, textI a) = true := by simp [isN, foldS]
  rw [lenVs, lenSet, allS, List.filter_append, List.map_append]
  rw [show List.map (fun x => x.2) ((withoutS l [lenCL]).filter (isN [lenCL])) = [] from h]
  simp [h2]
theorem lenVs_more (l : List Fld) (a b : Int) : lenVs (lenSet l a ++ lenSet [] b) = [textI a, textI b] := by
  rw [lenVs, allS, List.filter_append, List.map_append]
  have h1 := lenVs_set l a
  have h2 := lenVs_set [] b
  rw [lenVs, allS] at h1 h2
  rw [h1, h2]; rfl
theorem len_one {a : Int} (h0 : 0 ≤ a) (h1 : a ≤ 2147483647) : lenB (-1) [textI a] = false ∧ lenF (-1) [textI a] = a := by
  obtain ⟨e1, e2⟩ := num_textI (most := 2147483647) h0 h1 (by omega)
  have hb : lenBad (-1) (textI a) = false := by
    rw [← Bool.not_eq_true, lenBad_iff]
    rintro (h | ⟨h, _⟩)
    · exact h e1
    · omega
  have hn : lenNext (-1) (textI a) = a := (lenNext_good hb).trans e2
  simp [lenB, lenF, hb, hn]
theorem len_two {a b : Int} (h0 : 0 ≤ a) (h1 : a ≤ 2147483647) (g0 : 0 ≤ b) (g1 : b ≤ 2147483647) : lenB (-1) [textI a, textI b] = !decide (a = b) ∧ (a = b → lenF (-1) [textI a, textI b] = a) := by
  obtain ⟨e1, e2⟩ := num_textI (most := 2147483647) g0 g1 (by omega)
  obtain ⟨i1, i2⟩ := len_one h0 h1
  have hp := lenB_post (b := [textI b]) i1
  rw [i2] at hp
  rw [show [textI a, textI b] = [textI a] ++ [textI b] from rfl, hp.1, hp.2]
  have hb : lenBad a (textI b) = !decide (a = b) := by
    by_cases h : a = b
    · rw [decide_eq_true h, Bool.not_true, ← Bool.not_eq_true, lenBad_iff]
      rintro (h' | ⟨_, h'⟩)
      · exact h' e1
      · exact h' (e2.trans h.symm)
    · rw [decide_eq_false h, Bool.not_false, lenBad_iff]
      exact .inr ⟨h0, fun e => h (e.symm.trans e2)⟩
  refine ⟨by simp [lenB, hb], fun h => ?_⟩
  have hb' : lenBad a (textI b) = false := by rw [hb, decide_eq_true h]; rfl
  simp only [lenF, hb', Bool.false_eq_true, if_false]
  exact ((lenNext_good hb').trans e2).trans h.symm
def T_specLawSet : Tbl := fun g E args => (addT (addT (addT (addT nilT 6 Go.Proofs.Tryd.HdrR.tb_specFew) 8 Go.Proofs.Tryd.Len.tb_specOf) 11 Go.Proofs.Tryd.Len.tb_specSet) 7 Go.Proofs.Tryd.Len.tb_specLives) g E args
theorem T_specLawSet_ok : TblOK Tryd.prog T_specLawSet := (addT_ok (addT_ok (addT_ok (addT_ok nilT_ok (by decide +kernel) Go.Proofs.Tryd.HdrR.tb_specFew_ok) (by decide +kernel) Go.Proofs.Tryd.Len.tb_specOf_ok) (by decide +kernel) Go.Proofs.Tryd.Len.tb_specSet_ok) (by decide +kernel) Go.Proofs.Tryd.Len.tb_specLives_ok)
set_option maxRecDepth 100000 in
set_option maxHeartbeats 4000000 in
theorem specLawSet (l : List Fld) (a b : Int) (hl : l.length ≤ maxLen) (ha : inR .i64 a) (hb : inR .i64 b) : SpecE Tryd.prog 4 [] [enc_flds l, .int .i64 a, .int .i64 b] [] (.bool true) := by
  refine specF0 (C := T_specLawSet) (wr := false) (D := fun _ => []) (U := fun _ => none) (res := [.bool true]) Tryd.Ty.mixed T_specLawSet_ok Tryd.func4 (nA := 3) (by decide +kernel) rfl (fun _ => rfl) ?_
  simp only [Tryd.f4, bodyOf, rlOf]
  rw [W_V]
  simp (config := {maxSteps := 2000000}) only [T_specLawSet, Go.Proofs.Tryd.HdrR.tb_specFew, Go.Proofs.Tryd.Len.tb_specOf, Go.Proofs.Tryd.Len.tb_specSet, Go.Proofs.Tryd.Len.tb_specLives, go_sem, seval, dec_fld_mk]
  (try simp (config := {maxSteps := 2000000}) only [gimp, impB, isT, go_sem, seval])
  refine ⟨hl, fun hfew a0 a1 b0 b1 => ?_⟩
  obtain ⟨f1, f2⟩ := fewF_len hfew
  have hw := without_len l [lenCL]
  have hS : (lenSet l a).length ≤ 41 := by rw [lenSet, List.length_append]; simp only [List.length_singleton]; omega
  have hT : (lenSet [] b).length = 1 := rfl
  have tl := textI_len a
  have tlb := textI_len b
  have mS : ∀ x ∈ lenSet l a, x.2.length ≤ 1000000 := fun x hx => by
    rw [lenSet, List.mem_append, withoutS, List.mem_filter, List.mem_singleton] at hx
    rcases hx with hx | rfl
    · have := (f2 x hx.1).2; omega
    · simp only; omega
  have mT : ∀ x ∈ lenSet [] b, x.2.length ≤ 1000000 := fun x hx => by
    have : x ∈ [(lenCL, textI b)] := hx
    rw [List.mem_singleton] at this
    subst this
    simp only; omega
  have v1 := lenVs_set l a
  have v2 := lenVs_more l a b
  generalize lenSet l a = S at *
  generalize lenSet [] b = T at *
  have eT : List.take (0 + S.length + T.length) (S.map enc_fld ++ T.map enc_fld) = (S ++ T).map enc_fld := by
    rw [← List.map_append, List.take_of_length_le (by simp)]
  simp only [List.take_length, eT, map_fld]
  obtain ⟨p1, p2⟩ := len_one a0 a1
  have q1 : lenAll [textI a] = [textI a] := by simp [lenAll, lenParts_text a0 a1]
  have q2 : lenAll [textI a, textI b] = [textI a, textI b] := by simp [lenAll, lenParts_text a0 a1, lenParts_text b0 b1]
  obtain ⟨r1, r2⟩ := len_two a0 a1 b0 b1
  have s1 : lenN S = a := by
    rw [lenN, lenWrong, lenNum, v1, q1, p1, p2]
    simp only [Bool.false_eq_true, if_false]; omega
  have s2 : lenHas S = true := by rw [lenHas, lenWrong, lenNum, v1, q1, p1, p2, decide_eq_true a0]; rfl
  have s3 : lenErr S = 0 := by rw [lenErr, lenWrong, v1, q1, p1]; rfl
  have t0 : lenWrong (S ++ T) = !decide (a = b) := by rw [lenWrong, v2, q2, r1]
  have t1 : lenErr (S ++ T) = if a = b then 0 else 14 := by
    rw [lenErr, t0]
    by_cases h : a = b <;> simp [h]
  refine ⟨⟨by omega, by omega⟩, ⟨by omega, mS⟩, by omega, by omega, ⟨by omega, by omega⟩, ⟨by simp, by simp only [List.length_map, List.length_append]; omega, fun x hx => ?_, trivial⟩, fun h => ?_, fun _ _ _ => ?_⟩
  · rcases List.mem_append.1 hx with hx | hx
    · exact mS x hx
    · exact mT x hx
  · rcases h with (h | h) | h
    · exact h s1
    · rw [s2] at h; cases h
    · exact h s3
  · rw [t1]
    by_cases h : a = b
    · rw [if_pos h]
      refine ⟨by simp [h], .inl ⟨⟨rfl, ?_⟩, ?_⟩⟩
      · rw [lenN, t0, lenNum, v2, q2, r2 h]; simp only [h, decide_true, Bool.not_true, Bool.false_eq_true, if_false]; omega
      · rw [lenHas, t0, lenNum, v2, q2, r2 h, decide_eq_true h, decide_eq_true a0]; rfl
    · rw [if_neg h]
      refine ⟨by simp [h], .inr ⟨⟨rfl, ?_⟩, ?_⟩⟩
      · rw [lenN, t0, decide_eq_false h]; rfl
      · rw [lenHas, t0, decide_eq_false h]; rfl
end Go.Proofs.Tryd.Len
end
