/- lists: what is computed. No condition. -/
import Derived.Test.YtanpmebamgnhbaaOctC
import Derived.Test.YtanpmebamgnhbaaLibM
import Derived.Test.YtanpmebamgnhbaaSlcM
import Derived.Test.YtanpmebamgnhbaaCurM
set_option linter.unusedVariables false
set_option linter.unusedSimpArgs false
namespace Go.Mdl
open Go Go.Abs

/-- The state of a scan: within quotes, behind a backslash, how deep. -/
structure Scan where
  q : Bool
  s : Bool
  d : Nat
def scan0 : Scan := ⟨false, false, 0⟩
def Scan.closed (x : Scan) : Bool := !x.q && (!x.s && decide (x.d = 0))
def Scan.see (x : Scan) (c : UInt8) : Scan :=
  if x.s = true then ⟨x.q, false, x.d⟩
  else if c = 92 then ⟨x.q, x.q || decide (0 < x.d), x.d⟩
  else if x.q = true then ⟨!decide (c = 34), x.s, x.d⟩
  else if c = 40 then ⟨x.q, x.s, x.d + 1⟩
  else if 0 < x.d ∧ c = 41 then ⟨x.q, x.s, x.d - 1⟩
  else if x.d = 0 ∧ c = 34 then ⟨true, x.s, x.d⟩
  else x
def Scan.run (x : Scan) (l : List UInt8) : Scan := l.foldl Scan.see x
theorem Scan.run_snoc (x : Scan) (l : List UInt8) (c : UInt8) : x.run (l ++ [c]) = (x.run l).see c := by simp [Scan.run]
theorem Scan.run_append (x : Scan) (l r : List UInt8) : x.run (l ++ r) = (x.run l).run r := by simp [Scan.run]
theorem Scan.run_cons (x : Scan) (c : UInt8) (r : List UInt8) : x.run (c :: r) = (x.see c).run r := rfl
theorem Scan.see_d (x : Scan) (c : UInt8) : (x.see c).d ≤ x.d + 1 := by
  simp only [Scan.see]
  (repeat' split) <;> simp <;> omega
theorem Scan.run_d : ∀ (l : List UInt8) (x : Scan), (x.run l).d ≤ x.d + l.length
  | [], x => by simp [Scan.run]
  | c :: r, x => by
    have h1 := Scan.run_d r (x.see c)
    have h2 := Scan.see_d x c
    show ((x.see c).run r).d ≤ _
    simp only [List.length_cons]; omega
theorem Scan.run_take {s : List UInt8} {x : Nat} (h : x < s.length) (y : Scan) : y.run (s.take (x + 1)) = (y.run (s.take x)).see (s.getD x 0) := by
  rw [take_succ_getD 0 h, Scan.run, List.foldl_append]; rfl
theorem Scan.closed_iff {x : Scan} : x.closed = true ↔ x = scan0 := by
  obtain ⟨q, s, d⟩ := x
  simp only [Scan.closed, scan0, Scan.mk.injEq]
  cases q <;> cases s <;> simp
/-- Does all that is closed in end? -/
def endsS (s : List UInt8) : Bool := (scan0.run s).closed

/-- What stands between commas that are not closed in. -/
def elemsGo : Scan → List UInt8 → List UInt8 → List (List UInt8)
  | _, cur, [] => [cur]
  | x, cur, c :: r => if c = 44 ∧ x.closed = true then cur :: elemsGo x [] r else elemsGo (x.see c) (cur ++ [c]) r
def elemsS (s : List UInt8) : List (List UInt8) := elemsGo scan0 [] s
def keepE (l : List (List UInt8)) : List (List UInt8) := (l.map trimS).filter fun e => !decide (e = [])
def splitS (s : List UInt8) : List (List UInt8) := if endsS s = true then keepE (elemsS s) else []
def hasS (s w : List UInt8) : Bool := (splitS s).any fun e => foldS e w
def joinS : List (List UInt8) → List UInt8
  | [] => []
  | [a] => a
  | a :: b :: r => a ++ (44 :: 32 :: joinS (b :: r))
theorem joinS_snoc (e : List UInt8) : ∀ l : List (List UInt8), joinS (l ++ [e]) = if l = [] then e else joinS l ++ 44 :: 32 :: e
  | [] => rfl
  | [a] => rfl
  | a :: b :: r => by
    have ih := joinS_snoc e (b :: r)
    rw [if_neg (by simp)] at ih ⊢
    show a ++ (44 :: 32 :: joinS ((b :: r) ++ [e])) = _
    rw [ih]; simp [joinS]
theorem joinS_len {m : Nat} : ∀ {l : List (List UInt8)}, (∀ e ∈ l, e.length ≤ m) → (joinS l).length ≤ l.length * (m + 2)
  | [], _ => by simp [joinS]
  | [a], h => by have := h a (by simp); simp [joinS]; omega
  | a :: b :: r, h => by
    have h1 := joinS_len (l := b :: r) (fun e he => h e (List.mem_cons_of_mem _ he))
    have h2 := h a (by simp)
    simp only [joinS, List.length_append, List.length_cons] at h1 ⊢
    rw [Nat.add_mul (r.length + 1) 1 (m + 2)]
    omega
theorem keepE_append (a b : List (List UInt8)) : keepE (a ++ b) = keepE a ++ keepE b := by simp [keepE]

/-- How many octets till all is closed again; none: it never is. -/
def closeAt : Scan → List UInt8 → Option Nat
  | _, [] => none
  | x, c :: r => if (x.see c).closed = true then some 1 else (closeAt (x.see c) r).map (· + 1)
theorem closeAt_le : ∀ {x : Scan} {l : List UInt8} {n : Nat}, closeAt x l = some n → 1 ≤ n ∧ n ≤ l.length
  | x, [], n, h => by simp [closeAt] at h
  | x, c :: r, n, h => by
    simp only [closeAt] at h
    split at h
    · cases h; simp
    · simp only [Option.map_eq_some_iff] at h
      obtain ⟨k, hk, rfl⟩ := h
      have := closeAt_le hk
      simp; omega
/-- Up to where all is closed again, no comma parts. -/
theorem elemsGo_close : ∀ {x : Scan} {l : List UInt8} {n : Nat} (cur : List UInt8), (x.closed = true → l.getD 0 0 ≠ 44) → closeAt x l = some n →
    elemsGo x cur l = elemsGo scan0 (cur ++ l.take n) (l.drop n) ∧ x.run (l.take n) = scan0
  | x, [], n, cur, _, h => by simp [closeAt] at h
  | x, c :: r, n, cur, hc, h => by
    have h1 : ¬ (c = 44 ∧ x.closed = true) := fun ⟨e, h2⟩ => hc h2 (by simpa using e)
    simp only [elemsGo, if_neg h1]
    simp only [closeAt] at h
    split at h
    · rename_i h2
      cases h
      have := Scan.closed_iff.1 h2
      simp [this, Scan.run]
    · rename_i h2
      simp only [Option.map_eq_some_iff] at h
      obtain ⟨k, hk, rfl⟩ := h
      obtain ⟨g1, g2⟩ := elemsGo_close (cur ++ [c]) (fun h3 => absurd h3 h2) hk
      refine ⟨by simpa using g1, by simpa [Scan.run_cons] using g2⟩
theorem closeAt_none : ∀ {x : Scan} {l : List UInt8}, closeAt x l = none → l ≠ [] → (x.run l).closed = false
  | x, [], _, h => absurd rfl h
  | x, c :: r, h, _ => by
    simp only [closeAt] at h
    split at h
    · cases h
    · rename_i h2
      rw [Scan.run_cons]
      cases r with
      | nil => simpa [Scan.run] using h2
      | cons c' r' =>
        simp only [Option.map_eq_none_iff] at h
        exact closeAt_none h (by simp)
theorem elemsGo_len : ∀ {x : Scan} {l cur : List UInt8} {e : List UInt8}, e ∈ elemsGo x cur l → e.length ≤ cur.length + l.length
  | x, [], cur, e, h => by simp [elemsGo] at h; subst h; simp
  | x, c :: r, cur, e, h => by
    simp only [elemsGo] at h
    split at h
    · rcases List.mem_cons.1 h with h | h
      · subst h; simp
      · have := elemsGo_len h; simp at this ⊢; omega
    · have := elemsGo_len h; simp at this ⊢; omega
theorem elemsS_len {s e : List UInt8} (h : e ∈ elemsS s) : e.length ≤ s.length := by
  have := elemsGo_len h; simpa using this
theorem getD_len {n m : Nat} {l : List (List UInt8)} (h : ∀ e ∈ l, e.length ≤ m) : (l.getD n []).length ≤ m := by
  rcases Nat.lt_or_ge n l.length with h1 | h1
  · have := getD_of_lt (s := l) (d := []) h1
    exact h _ (List.mem_of_getElem? this)
  · rw [List.getD_eq_getElem?_getD, List.getElem?_eq_none h1]; simp
theorem trimL_len (s : List UInt8) : (trimL s).length ≤ s.length := (List.dropWhile_sublist _).length_le
theorem trimS_len (s : List UInt8) : (trimS s).length ≤ s.length := by
  have h1 := trimL_len s
  have h2 : (trimR (trimL s)).length ≤ (trimL s).length := by
    have := (List.dropWhile_sublist blankB (l := (trimL s).reverse)).length_le
    simpa [trimR] using this
  exact Nat.le_trans h2 h1
theorem keepE_mem {l : List (List UInt8)} {e : List UInt8} : e ∈ keepE l ↔ ∃ a ∈ l, e = trimS a ∧ e ≠ [] := by
  simp only [keepE, List.mem_filter, List.mem_map, Bool.not_eq_true', decide_eq_false_iff_not]
  constructor
  · rintro ⟨⟨a, ha, rfl⟩, h⟩; exact ⟨a, ha, rfl, h⟩
  · rintro ⟨a, ha, rfl, h⟩; exact ⟨⟨a, ha, rfl⟩, h⟩
theorem keepE_le (l : List (List UInt8)) : (keepE l).length ≤ l.length := by
  have := List.length_filter_le (fun e => !decide (e = [])) (l.map trimS)
  simpa [keepE] using this
theorem keepE_one {a : List UInt8} : keepE [a] = if trimS a = [] then [] else [trimS a] := by
  by_cases h : trimS a = [] <;> simp [keepE, h]
theorem splitS_mem {s e : List UInt8} (h : e ∈ splitS s) : e.length ≤ s.length ∧ e ≠ [] := by
  unfold splitS at h
  split at h
  · obtain ⟨a, ha, rfl, h1⟩ := keepE_mem.1 h
    exact ⟨Nat.le_trans (trimS_len a) (elemsS_len ha), h1⟩
  · simp at h
theorem elemsGo_count : ∀ (x : Scan) (l cur : List UInt8), (elemsGo x cur l).length ≤ l.length + 1
  | x, [], cur => by simp [elemsGo]
  | x, c :: r, cur => by
    simp only [elemsGo]
    split
    · have := elemsGo_count x r []; simp; omega
    · have := elemsGo_count (x.see c) r (cur ++ [c]); simp; omega
theorem splitS_count (s : List UInt8) : (splitS s).length ≤ s.length + 1 := by
  unfold splitS
  split
  · exact Nat.le_trans (keepE_le _) (elemsGo_count scan0 s [])
  · simp
theorem elemsGo_cons {x : Scan} {cur : List UInt8} {c : UInt8} {r : List UInt8} : elemsGo x cur (c :: r) = if c = 44 ∧ x.closed = true then cur :: elemsGo x [] r else elemsGo (x.see c) (cur ++ [c]) r := rfl
theorem see_top {c : UInt8} (h1 : c ≠ 34) (h2 : c ≠ 40) : scan0.see c = scan0 := by
  simp only [Scan.see, scan0]
  by_cases h : c = 92
  · simp [h]
  · simp [h, h1, h2]

/-- The first range over a function in a piece of code. -/
def rangeIn : Code → Option (Array Tmp × Code × Code)
  | .seq a b => match rangeIn a with | some r => some r | none => rangeIn b
  | .cond _ t f => match rangeIn t with | some r => some r | none => rangeIn f
  | .block _ b => rangeIn b
  | .loop b => rangeIn b
  | .rangeFunc _ ps A B => some (ps, A, B)
  | _ => none
def lcOf (fn : Func) (n : Nat) : LoopC := match rangeIn (bodyOf fn) with
  | some (ps, A, B) => ⟨ps, A, B, n⟩
  | none => ⟨#[], .skip, .skip, n⟩
end Go.Mdl
