/- octet: what is computed. No condition. -/
import Derived.Test.YtlkfjkimnkhelaaDoorUtf
set_option linter.unusedVariables false
set_option linter.unusedSimpArgs false
namespace Go.Mdl
open Go Go.Abs

def marksB : List UInt8 := [33, 35, 36, 37, 38, 39, 42, 43, 45, 46, 94, 95, 96, 124, 126]
def alnumI (r : Int) : Bool := decide (97 ≤ r ∧ r ≤ 122 ∨ 65 ≤ r ∧ r ≤ 90 ∨ 48 ≤ r ∧ r ≤ 57)
def tcharI (r : Int) : Bool := alnumI r || marksB.any fun m => decide ((m.toNat : Int) = r)
def tcharB (c : UInt8) : Bool := tcharI c.toNat
def valueI (r : Int) : Bool := decide (r = 9 ∨ 32 ≤ r ∧ r ≠ 127)
def valueB (c : UInt8) : Bool := valueI c.toNat
def visI (r : Int) : Bool := decide (32 < r ∧ r < 127)
def visB (c : UInt8) : Bool := visI c.toNat
def tokenS (s : List UInt8) : Bool := !decide (s = []) && s.all tcharB
def valueS (s : List UInt8) : Bool := s.all valueB
def visS (s : List UInt8) : Bool := !decide (s = []) && s.all visB
def lowerB (c : UInt8) : UInt8 := if 65 ≤ c.toNat ∧ c.toNat ≤ 90 then c + 32 else c
def lowerS (s : List UInt8) : List UInt8 := s.map lowerB
def blankB (c : UInt8) : Bool := decide (c = 32) || decide (c = 9)
def trimL (s : List UInt8) : List UInt8 := s.dropWhile blankB
def trimR (s : List UInt8) : List UInt8 := (s.reverse.dropWhile blankB).reverse
def trimS (s : List UInt8) : List UInt8 := trimR (trimL s)

theorem tchar_rune : RuneB tcharI tcharB false := by
  have big : ∀ r : Int, 128 ≤ r → tcharI r = false := by
    intro r hr
    have h1 : alnumI r = false := by simp [alnumI]; omega
    simp only [tcharI, h1, Bool.false_or, marksB, List.any_cons, List.any_nil, Bool.or_false, Bool.or_eq_false_iff, decide_eq_false_iff_not]
    simp
    omega
  exact ⟨fun c _ => rfl, big, fun c h => big _ (by omega)⟩
theorem value_rune : RuneB valueI valueB true :=
  ⟨fun c _ => rfl, fun r h => by simp [valueI]; omega, fun c h => by simp [valueB, valueI]; omega⟩
theorem vis_rune : RuneB visI visB false :=
  ⟨fun c _ => rfl, fun r h => by simp [visI]; omega, fun c h => by simp [visB, visI]; omega⟩

theorem tchar_alnum {r : Int} (h : (97 ≤ r ∧ r ≤ 122) ∨ (65 ≤ r ∧ r ≤ 90) ∨ (48 ≤ r ∧ r ≤ 57)) : tcharI r = true := by
  have : alnumI r = true := by simp [alnumI]; omega
  simp [tcharI, this]
theorem marks_low (i : Nat) : (marksB.getD i 0).toNat < 128 := by
  by_cases h : i < 15
  · have : i = 0 ∨ i = 1 ∨ i = 2 ∨ i = 3 ∨ i = 4 ∨ i = 5 ∨ i = 6 ∨ i = 7 ∨ i = 8 ∨ i = 9 ∨ i = 10 ∨ i = 11 ∨ i = 12 ∨ i = 13 ∨ i = 14 := by omega
    rcases this with rfl | rfl | rfl | rfl | rfl | rfl | rfl | rfl | rfl | rfl | rfl | rfl | rfl | rfl | rfl <;> decide
  · have : marksB.getD i 0 = 0 := by
      rw [List.getD_eq_getElem?_getD, List.getElem?_eq_none (by simp [marksB]; omega)]; rfl
    rw [this]; decide
/-- No mark up to here is it. -/
def NoMark (r : Int) (n : Nat) : Prop := ∀ i, i < n → ((marksB.getD i 0).toNat : Int) ≠ r
theorem tchar_mark {r : Int} {i : Nat} (hi : i < 15) (h : ((marksB.getD i 0).toNat : Int) = r) : tcharI r = true := by
  have hl : i < marksB.length := by simpa [marksB] using hi
  have hm := List.mem_of_getElem? (getD_of_lt (s := marksB) (d := 0) hl)
  have : (marksB.any fun m => decide ((m.toNat : Int) = r)) = true := by
    rw [List.any_eq_true]; exact ⟨_, hm, by simpa using h⟩
  simp [tcharI, this]
theorem tchar_no {r : Int} (h : ¬ ((97 ≤ r ∧ r ≤ 122) ∨ (65 ≤ r ∧ r ≤ 90) ∨ (48 ≤ r ∧ r ≤ 57))) (hn : NoMark r 15) : tcharI r = false := by
  have h1 : alnumI r = false := by
    rw [← Bool.not_eq_true]; intro hh; simp [alnumI] at hh; omega
  have h2 : (marksB.any fun m => decide ((m.toNat : Int) = r)) = false := by
    rw [← Bool.not_eq_true, List.any_eq_true]
    rintro ⟨x, hx, he⟩
    obtain ⟨i, hi⟩ := List.getElem?_of_mem hx
    have hl : i < marksB.length := (List.getElem?_eq_some_iff.1 hi).1
    rw [getD_of_lt (d := 0) hl] at hi
    cases hi
    exact hn i (by simpa [marksB] using hl) (by simpa using he)
  simp [tcharI, h1, h2]
end Go.Mdl
