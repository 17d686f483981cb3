/- field: what is computed. No condition. -/
import Derived.Test.YtnfidlgiaaeleaaDoorLibM
import Derived.Test.YtnfidlgiaaeleaaDoorOctT
set_option linter.unusedVariables false
set_option linter.unusedSimpArgs false
namespace Go.Mdl
open Go Go.Abs

/-- The error of a line; 0: none. -/
def fldErr (s : List UInt8) : Int :=
  if upTo 58 s < s.length then (if tokenS (s.take (upTo 58 s)) = true then (if valueS (s.drop (upTo 58 s + 1)) = true then 0 else 7) else 6) else 3
def fldName (s : List UInt8) : List UInt8 := if fldErr s = 0 then s.take (upTo 58 s) else []
def fldValue (s : List UInt8) : List UInt8 := if fldErr s = 0 then trimS (s.drop (upTo 58 s + 1)) else []
def fldLine (n v : List UInt8) : List UInt8 := if v = [] then n ++ [58] else n ++ (58 :: 32 :: v)
def fldRight (n v : List UInt8) : Bool := tokenS n && (valueS v && decide (trimS v = v))
/-- No c up to here, and there or at the end it stops. -/
theorem upTo_at {c : UInt8} : ∀ {s : List UInt8} {x : Nat}, x ≤ s.length → (s.take x).all (fun b => !decide (b = c)) = true → (x < s.length → s.getD x 0 = c) → x = upTo c s
  | [], x, hx, _, _ => by simp at hx; simp [upTo, hx]
  | b :: l, x, hx, hn, he => by
    cases x with
    | zero => have := he (by simp); simp at this; simp [upTo, this]
    | succ x =>
      simp only [List.take_succ_cons, List.all_cons, Bool.and_eq_true, Bool.not_eq_true', decide_eq_false_iff_not] at hn
      have := upTo_at (s := l) (x := x) (by simpa using hx) hn.2 (fun h => by have := he (by simpa using h); simpa using this)
      simp [upTo, hn.1, ← this]
theorem all_next {p : UInt8 → Bool} {s : List UInt8} {x : Nat} (hx : x < s.length) (h : (s.take x).all p = true) (hp : p (s.getD x 0) = true) : (s.take (x + 1)).all p = true := by
  rw [take_succ_getD 0 hx, List.all_append, h]; simpa using hp
end Go.Mdl
