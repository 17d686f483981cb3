/- params: what is computed. No condition. -/
import Derived.Test.YtanpmebamgnhbaaOctC
import Derived.Test.YtanpmebamgnhbaaCurM
import Derived.Test.YtanpmebamgnhbaaSlcM
set_option linter.unusedVariables false
set_option linter.unusedSimpArgs false
namespace Go.Mdl
open Go Go.Abs


/-- What stands behind a parameter's =: the text, whether it may be, how many octets are taken. -/
def eqAt (t : List UInt8) : Bool := decide ((t.drop (spanL blankB t)).head? = some 61)
def valK (t : List UInt8) : Nat := spanL blankB t + 1
def valJ (t : List UInt8) : Nat := valK t + spanL blankB (t.drop (valK t))
def valN (t : List UInt8) : Nat := spanL tcharB (t.drop (valJ t))
def valText (t : List UInt8) : List UInt8 := if eqAt t = true then (if valN t = 0 then qText (t.drop (valJ t)) else (t.drop (valJ t)).take (valN t)) else []
def valOk (t : List UInt8) : Bool := if eqAt t = true then (if valN t = 0 then qHas (t.drop (valJ t)) else true) else true
def valTake (t : List UInt8) : Nat := if eqAt t = true then (if valN t = 0 then valJ t + qLen (t.drop (valJ t)) else valJ t + valN t) else 0

/-- A parameter. -/
def semi (t : List UInt8) : Bool := decide ((t.drop (spanL blankB t)).head? = some 59)
def parK (t : List UInt8) : Nat := spanL blankB t + if semi t = true then 1 else 0
def parJ (t : List UInt8) : Nat := parK t + spanL blankB (t.drop (parK t))
def parN (t : List UInt8) : Nat := spanL tcharB (t.drop (parJ t))
def parName (t : List UInt8) : List UInt8 := lowerS ((t.drop (parJ t)).take (parN t))
def parRest (t : List UInt8) : List UInt8 := t.drop (parJ t + parN t)
def parBad (t : List UInt8) : Bool := !semi t || (decide (parN t = 0) || !valOk (parRest t))
def parVal (t : List UInt8) : List UInt8 := valText (parRest t)
def parTake (t : List UInt8) : Nat := parJ t + parN t + valTake (parRest t)
def parLeft (t : List UInt8) : List UInt8 := t.drop (parTake t)

theorem span_drop_le (p : UInt8 → Bool) (t : List UInt8) (n : Nat) (h : n ≤ t.length) : n + spanL p (t.drop n) ≤ t.length := by
  have := spanL_le p (t.drop n)
  rw [List.length_drop] at this; omega
theorem head_lt {t : List UInt8} {n : Nat} {c : UInt8} (h : (t.drop n).head? = some c) : n < t.length := by
  rcases Nat.lt_or_ge n t.length with h1 | h1
  · exact h1
  · rw [List.drop_eq_nil_of_le h1] at h; simp at h
theorem eqAt_lt {t : List UInt8} (h : eqAt t = true) : valK t ≤ t.length := head_lt (by simpa [eqAt] using h)
theorem valJ_le {t : List UInt8} (h : eqAt t = true) : valJ t ≤ t.length := span_drop_le _ _ _ (eqAt_lt h)
theorem valTake_le (t : List UInt8) : valTake t ≤ t.length := by
  unfold valTake
  split
  · rename_i h
    have h1 := valJ_le h
    split
    · have := qLen_le (t.drop (valJ t)); rw [List.length_drop] at this; omega
    · exact span_drop_le _ _ _ h1
  · omega
theorem parK_le (t : List UInt8) : parK t ≤ t.length := by
  unfold parK
  split
  · rename_i h; exact head_lt (by simpa [semi] using h)
  · exact spanL_le _ _
theorem parJ_le (t : List UInt8) : parJ t ≤ t.length := span_drop_le _ _ _ (parK_le t)
theorem parN_le (t : List UInt8) : parJ t + parN t ≤ t.length := span_drop_le _ _ _ (parJ_le t)
theorem parTake_le (t : List UInt8) : parTake t ≤ t.length := by
  have h1 := parN_le t
  have h2 := valTake_le (parRest t)
  rw [parRest, List.length_drop] at h2
  unfold parTake parRest; omega
theorem parLeft_lt {t : List UInt8} (h : parBad t = false) : (parLeft t).length < t.length := by
  simp only [parBad, Bool.or_eq_false_iff, decide_eq_false_iff_not, Bool.not_eq_false'] at h
  obtain ⟨h1, h2, h3⟩ := h
  have h4 := parTake_le t
  have h5 : 1 ≤ parTake t := by unfold parTake parJ parK; rw [if_pos h1]; omega
  unfold parLeft
  rw [List.length_drop]; omega

def parHas (t : List UInt8) : Bool := semi t && !decide (parN t = 0)
def addPar (l : List (List UInt8 × List UInt8)) (t : List UInt8) : List (List UInt8 × List UInt8) := l ++ [(parName t, parVal t)]
/-- The parameters of a text; none: it has another form. -/
def parsGo (t : List UInt8) : Option (List (List UInt8 × List UInt8)) :=
  if t = [] then some []
  else if h : parBad t = true then none
  else (parsGo (parLeft t)).map ((parName t, parVal t) :: ·)
termination_by t.length
decreasing_by exact parLeft_lt (by simpa using h)
theorem parsGo_nil : parsGo [] = some [] := by rw [parsGo]; simp
theorem parsGo_bad {t : List UInt8} (h0 : t ≠ []) (h : parBad t = true) : parsGo t = none := by rw [parsGo]; simp [h0, h]
theorem parsGo_step {t : List UInt8} (h0 : t ≠ []) (h : parBad t = false) : parsGo t = (parsGo (parLeft t)).map ((parName t, parVal t) :: ·) := by rw [parsGo]; simp [h0, h]

/-- The word that a text begins with, and all of it. -/
def wordP (s : List UInt8) : List UInt8 := s.take (spanL tcharB s)
def restP (s : List UInt8) : List UInt8 := s.drop (spanL tcharB s)
def parsOk (s : List UInt8) : Bool := !decide (spanL tcharB s = 0) && (parsGo (restP s)).isSome
def parsName (s : List UInt8) : List UInt8 := if parsOk s = true then lowerS (wordP s) else []
def parsList (s : List UInt8) : List (List UInt8 × List UInt8) := if parsOk s = true then (parsGo (restP s)).getD [] else []
def parsErr (s : List UInt8) : Int := if s = [] then 2 else if parsOk s = true then 0 else 3

/-- The text of a parameter, and whether it may be. -/
def parText (p : List UInt8 × List UInt8) : List UInt8 := 59 :: (p.1 ++ if p.2 = [] then [] else 61 :: quoteS p.2)
def parMay (p : List UInt8 × List UInt8) : Bool := tokenS p.1 && (decide (p.2 = []) || quoteOk p.2)
def textGo (n : List UInt8) (l : List (List UInt8 × List UInt8)) : List UInt8 := n ++ l.flatMap parText
def parsMay (n : List UInt8) (l : List (List UInt8 × List UInt8)) : Bool := tokenS n && l.all parMay
def parsText (n : List UInt8) (l : List (List UInt8 × List UInt8)) : List UInt8 := if parsMay n l = true then textGo n l else []
theorem textGo_snoc (n : List UInt8) (l : List (List UInt8 × List UInt8)) (p : List UInt8 × List UInt8) : textGo n (l ++ [p]) = textGo n l ++ parText p := by simp [textGo]
theorem parText_len (p : List UInt8 × List UInt8) : (parText p).length ≤ p.1.length + 2 * p.2.length + 4 := by
  have := quoteS_len p.2
  unfold parText
  split <;> simp <;> omega
theorem textGo_len {m : Nat} {n : List UInt8} : ∀ {l : List (List UInt8 × List UInt8)}, (∀ p ∈ l, p.1.length ≤ m ∧ p.2.length ≤ m) → (textGo n l).length ≤ n.length + l.length * (3 * m + 4)
  | [], _ => by simp [textGo]
  | p :: r, h => by
    have h1 := textGo_len (n := n) (l := r) (fun q hq => h q (List.mem_cons_of_mem _ hq))
    have h2 := h p (by simp)
    have h3 := parText_len p
    simp only [textGo, List.flatMap_cons, List.length_append, List.length_cons] at h1 ⊢
    rw [Nat.add_mul r.length 1]
    omega
end Go.Mdl
