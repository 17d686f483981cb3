/- Go's library by the shelf's contracts. Conditions: lengths that a machine holds. -/
import Derived.Test.YtnfidlgiaaeleaaDoorLib
import Derived.Test.YtnfidlgiaaeleaaDoorShelf
set_option linter.unusedVariables false
set_option linter.unusedSimpArgs false
namespace Go.Mdl
open Go Go.Abs
theorem ba_list (s : List UInt8) : (ByteArray.mk s.toArray).data.toList = s := by simp
theorem ba_size (s : List UInt8) : (ByteArray.mk s.toArray).size = s.length := by simp [ByteArray.size]
theorem list2 {vs : List Value} (h : vs.length = 2) : ∃ a b, vs = [a, b] := by
  match vs, h with
  | [a, b], _ => exact ⟨a, b, rfl⟩
end Go.Mdl
namespace Go.Proofs.Tryd.Lib
open Go Go.Abs Go.Proofs Go.Mdl




def T_specHasPrefix : Tbl := fun g E args => nilT g E args
theorem T_specHasPrefix_ok : TblOK Tryd.prog T_specHasPrefix := nilT_ok
set_option maxRecDepth 100000 in
set_option maxHeartbeats 4000000 in
theorem specHasPrefix (s p : List UInt8) : SpecE Tryd.prog 66 [] [.str s, .str p] [] (.bool (Lib.hasPrefix s p)) := by
  refine SpecE.ofCalls (by decide +kernel) (fun w ok vs hok hl hr => ?_)
  obtain ⟨v0, v1, rfl⟩ := list2 hl
  have e0 := (hr 0 _ _ rfl rfl).strInv
  have e1 := (hr 1 _ _ rfl rfl).strInv
  subst e0 e1
  refine (Tryd.strings_HasPrefix ⟨s.toArray⟩ ⟨p.toArray⟩ w).mono ?_
  rintro e w' ⟨rfl, rfl⟩
  exact ⟨_, rfl, RowKit.Below.refl _ _, fun ok' => .bool _⟩
def tb_specHasPrefix : List Blk → List AV → Option (List Blk × AV × Prop)
  | [], [.str s, .str p] => some ([], .bool (Lib.hasPrefix s p), True)
  | _, _ => none
theorem tb_specHasPrefix_ok : ∀ E args E' res p, tb_specHasPrefix E args = some (E', res, p) → p → SpecE Tryd.prog 66 E args E' res := by
  intro E args E' res p h hp
  unfold tb_specHasPrefix at h
  split at h
  · simp only [Option.some.injEq, Prod.mk.injEq] at h
    obtain ⟨rfl, rfl, rfl⟩ := h
    exact (specHasPrefix _ _)
  · cases h


end Go.Proofs.Tryd.Lib
