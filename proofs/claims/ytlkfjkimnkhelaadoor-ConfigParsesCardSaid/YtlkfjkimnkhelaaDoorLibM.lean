/- Go's library: what is computed. No condition. -/
import Derived.Test.YtlkfjkimnkhelaaDoorAbsT
import Derived.Lib.Bytealg
set_option linter.unusedVariables false
set_option linter.unusedSimpArgs false
namespace Go.Mdl
open Go Go.Abs

/-- How many octets stand ahead of the first c. -/
def upTo (c : UInt8) : List UInt8 → Nat
  | [] => 0
  | b :: l => if b = c then 0 else upTo c l + 1
theorem upTo_le (c : UInt8) : ∀ s, upTo c s ≤ s.length
  | [] => Nat.le_refl _
  | b :: l => by
    have := upTo_le c l
    simp only [upTo]; split <;> simp <;> omega
/-- The place of the first c; -1: there is none. -/
def idxB (c : UInt8) (s : List UInt8) : Int := if upTo c s < s.length then (upTo c s : Int) else -1
theorem indexByte_idxB (c : UInt8) : ∀ s, Lib.indexByte s c = idxB c s
  | [] => rfl
  | b :: l => by
    have h := indexByte_idxB c l
    have hl := upTo_le c l
    simp only [Lib.indexByte, idxB, upTo] at h ⊢
    by_cases e : b = c
    · subst e; simp
    · simp only [beq_eq_false_iff_ne.2 e, if_neg e, h, Bool.false_eq_true, if_false, List.length_cons]
      by_cases h2 : upTo c l < l.length
      · have h3 : ((upTo c l : Int) == -1) = false := by rw [beq_eq_false_iff_ne]; omega
        simp [h2, h3]
      · simp [h2]
theorem idxB_lo (c : UInt8) (s : List UInt8) : -1 ≤ idxB c s := by unfold idxB; split <;> omega
theorem idxB_hi (c : UInt8) (s : List UInt8) : idxB c s < s.length := by unfold idxB; split <;> omega

theorem PostE.same {w : World} {ok : Nat → Nat → Prop} {L : Nat → Option Blk} {φ : Nat → Option Nat} {res : AV} {v : Value} (hh : HeapOK w ok L φ) (hv : R w ok L φ res v) : PostE w ok L φ w ok φ L res v :=
  ⟨Fr.refl _ _, hh, hv, Keeps.refl _ _ _ _, fun i b h => .inl ⟨i, h⟩, fun b o h => .inl h⟩
end Go.Mdl
