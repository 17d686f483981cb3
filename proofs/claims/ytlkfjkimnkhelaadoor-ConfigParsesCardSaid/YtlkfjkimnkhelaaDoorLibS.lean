/- Go's library by the shelf's contracts. Conditions: lengths that a machine holds. -/
import Derived.Test.YtlkfjkimnkhelaaDoorLib
import Derived.Test.YtlkfjkimnkhelaaDoorShelf
set_option linter.unusedVariables false
set_option linter.unusedSimpArgs false
namespace Go.Mdl
open Go Go.Abs
theorem ba_list (s : List UInt8) : (ByteArray.mk s.toArray).data.toList = s := by simp
theorem ba_size (s : List UInt8) : (ByteArray.mk s.toArray).size = s.length := by simp [ByteArray.size]
theorem list2 {vs : List Value} (h : vs.length = 2) : ∃ a b, vs = [a, b] := by
  match vs, h with
  | [a, b], _ => exact ⟨a, b, rfl⟩
end Go.Mdl
namespace Go.Proofs.Tryd.Lib
open Go Go.Abs Go.Proofs Go.Mdl


def T_specCutPrefix : Tbl := fun g E args => nilT g E args
theorem T_specCutPrefix_ok : TblOK Tryd.prog T_specCutPrefix := nilT_ok
set_option maxRecDepth 100000 in
set_option maxHeartbeats 4000000 in
theorem specCutPrefix (s p : List UInt8) : SpecE Tryd.prog 109 [] [.str s, .str p] [] (.tuple [.str (Lib.trimPrefix s p), .bool (Lib.hasPrefix s p)]) := by
  refine SpecE.ofCalls (by decide +kernel) (fun w ok vs hok hl hr => ?_)
  obtain ⟨v0, v1, rfl⟩ := list2 hl
  have e0 := (hr 0 _ _ rfl rfl).strInv
  have e1 := (hr 1 _ _ rfl rfl).strInv
  subst e0 e1
  refine (Tryd.strings_CutPrefix ⟨s.toArray⟩ ⟨p.toArray⟩ w).mono ?_
  rintro e w' ⟨rfl, rfl⟩
  refine ⟨_, rfl, RowKit.Below.refl _ _, fun ok' => .tuple [_, _] [_, _] rfl (fun i a v ha hv => ?_)⟩
  match i with
  | 0 => simp at ha hv; subst ha; subst hv; exact .str _
  | 1 => simp at ha hv; subst ha; subst hv; exact .bool _
  | _ + 2 => simp at ha
def tb_specCutPrefix : List Blk → List AV → Option (List Blk × AV × Prop)
  | [], [.str s, .str p] => some ([], .tuple [.str (Lib.trimPrefix s p), .bool (Lib.hasPrefix s p)], True)
  | _, _ => none
theorem tb_specCutPrefix_ok : ∀ E args E' res p, tb_specCutPrefix E args = some (E', res, p) → p → SpecE Tryd.prog 109 E args E' res := by
  intro E args E' res p h hp
  unfold tb_specCutPrefix at h
  split at h
  · simp only [Option.some.injEq, Prod.mk.injEq] at h
    obtain ⟨rfl, rfl, rfl⟩ := h
    exact (specCutPrefix _ _)
  · cases h

def T_specCutSuffix : Tbl := fun g E args => nilT g E args
theorem T_specCutSuffix_ok : TblOK Tryd.prog T_specCutSuffix := nilT_ok
set_option maxRecDepth 100000 in
set_option maxHeartbeats 4000000 in
theorem specCutSuffix (s p : List UInt8) (hs : s.length ≤ maxLen) : SpecE Tryd.prog 110 [] [.str s, .str p] [] (.tuple [.str (Lib.trimSuffix s p), .bool (Lib.hasSuffix s p)]) := by
  refine SpecE.ofCalls (by decide +kernel) (fun w ok vs hok hl hr => ?_)
  obtain ⟨v0, v1, rfl⟩ := list2 hl
  have e0 := (hr 0 _ _ rfl rfl).strInv
  have e1 := (hr 1 _ _ rfl rfl).strInv
  subst e0 e1
  refine (Tryd.strings_CutSuffix ⟨s.toArray⟩ ⟨p.toArray⟩ w (by rw [ba_size]; exact hs)).mono ?_
  rintro e w' ⟨rfl, rfl⟩
  refine ⟨_, rfl, RowKit.Below.refl _ _, fun ok' => .tuple [_, _] [_, _] rfl (fun i a v ha hv => ?_)⟩
  match i with
  | 0 => simp at ha hv; subst ha; subst hv; exact .str _
  | 1 => simp at ha hv; subst ha; subst hv; exact .bool _
  | _ + 2 => simp at ha
def tb_specCutSuffix : List Blk → List AV → Option (List Blk × AV × Prop)
  | [], [.str s, .str p] => some ([], .tuple [.str (Lib.trimSuffix s p), .bool (Lib.hasSuffix s p)], (s.length ≤ maxLen))
  | _, _ => none
theorem tb_specCutSuffix_ok : ∀ E args E' res p, tb_specCutSuffix E args = some (E', res, p) → p → SpecE Tryd.prog 110 E args E' res := by
  intro E args E' res p h hp
  unfold tb_specCutSuffix at h
  split at h
  · simp only [Option.some.injEq, Prod.mk.injEq] at h
    obtain ⟨rfl, rfl, rfl⟩ := h
    exact (specCutSuffix _ _ hp)
  · cases h

def T_specHasPrefix : Tbl := fun g E args => nilT g E args
theorem T_specHasPrefix_ok : TblOK Tryd.prog T_specHasPrefix := nilT_ok
set_option maxRecDepth 100000 in
set_option maxHeartbeats 4000000 in
theorem specHasPrefix (s p : List UInt8) : SpecE Tryd.prog 34 [] [.str s, .str p] [] (.bool (Lib.hasPrefix s p)) := by
  refine SpecE.ofCalls (by decide +kernel) (fun w ok vs hok hl hr => ?_)
  obtain ⟨v0, v1, rfl⟩ := list2 hl
  have e0 := (hr 0 _ _ rfl rfl).strInv
  have e1 := (hr 1 _ _ rfl rfl).strInv
  subst e0 e1
  refine (Tryd.strings_HasPrefix ⟨s.toArray⟩ ⟨p.toArray⟩ w).mono ?_
  rintro e w' ⟨rfl, rfl⟩
  exact ⟨_, rfl, RowKit.Below.refl _ _, fun ok' => .bool _⟩
def tb_specHasPrefix : List Blk → List AV → Option (List Blk × AV × Prop)
  | [], [.str s, .str p] => some ([], .bool (Lib.hasPrefix s p), True)
  | _, _ => none
theorem tb_specHasPrefix_ok : ∀ E args E' res p, tb_specHasPrefix E args = some (E', res, p) → p → SpecE Tryd.prog 34 E args E' res := by
  intro E args E' res p h hp
  unfold tb_specHasPrefix at h
  split at h
  · simp only [Option.some.injEq, Prod.mk.injEq] at h
    obtain ⟨rfl, rfl, rfl⟩ := h
    exact (specHasPrefix _ _)
  · cases h

def T_specLastIndexByte : Tbl := fun g E args => nilT g E args
theorem T_specLastIndexByte_ok : TblOK Tryd.prog T_specLastIndexByte := nilT_ok
set_option maxRecDepth 100000 in
set_option maxHeartbeats 4000000 in
theorem specLastIndexByte (s : List UInt8) (c : UInt8) (hs : s.length ≤ 1000000) : SpecE Tryd.prog 105 [] [.str s, enc_u8 c] [] (.int .i64 (Lib.lastIndexByte ⟨s.toArray⟩ c.toNat)) := by
  refine SpecE.ofCalls (by decide +kernel) (fun w ok vs hok hl hr => ?_)
  obtain ⟨v0, v1, rfl⟩ := list2 hl
  have e0 := (hr 0 _ _ rfl rfl).strInv
  have e1 := (hr 1 _ _ rfl rfl).intInv
  subst e0 e1
  refine (Tryd.strings_LastIndexByte ⟨s.toArray⟩ c.toNat (by rw [ba_size]; omega) w).mono ?_
  rintro e w' ⟨rfl, rfl⟩
  exact ⟨_, rfl, RowKit.Below.refl _ _, fun ok' => .int _ _⟩
def tb_specLastIndexByte : List Blk → List AV → Option (List Blk × AV × Prop)
  | [], [.str s, a1] => some ([], .int .i64 (Lib.lastIndexByte ⟨s.toArray⟩ (dec_u8 a1).toNat), (s.length ≤ 1000000) ∧ argOK a1 (enc_u8 (dec_u8 a1)))
  | _, _ => none
theorem tb_specLastIndexByte_ok : ∀ E args E' res p, tb_specLastIndexByte E args = some (E', res, p) → p → SpecE Tryd.prog 105 E args E' res := by
  intro E args E' res p h hp
  unfold tb_specLastIndexByte at h
  split at h
  · simp only [Option.some.injEq, Prod.mk.injEq] at h
    obtain ⟨rfl, rfl, rfl⟩ := h
    exact SpecE.args (specLastIndexByte _ _ hp.1) (.cons (argOK.refl _) (.cons hp.2 .nil))
  · cases h

def T_specJoin : Tbl := fun g E args => nilT g E args
theorem T_specJoin_ok : TblOK Tryd.prog T_specJoin := nilT_ok
set_option maxRecDepth 100000 in
set_option maxHeartbeats 4000000 in
theorem specJoin (l : List (List UInt8)) (p : List UInt8) (hn : l.length ≤ 1000000) (hj : (Lib.join l p).length ≤ 140737488355328) : SpecE Tryd.prog 39 [] [enc_strs l, .str p] [] (.str (Lib.join l p)) := by
  refine SpecE.ofCalls (by decide +kernel) (fun w ok vs hok hl hr => ?_)
  obtain ⟨v0, v1, rfl⟩ := list2 hl
  have h0 := hr 0 _ _ rfl rfl
  have e1 := (hr 1 _ _ rfl rfl).strInv
  subst e1
  obtain ⟨a, cap, rfl, hcap, hmx, hh⟩ := Rp.listInv h0
  have hmap : ∀ xs : List (List UInt8), (xs.map fun x => ByteArray.mk x.toArray).map (fun x => x.data.toList) = xs := fun xs => by simp [List.map_map, Function.comp_def]
  by_cases hnil : l = []
  · subst hnil
    refine (Tryd.strings_Join_none a cap ⟨p.toArray⟩ w).mono ?_
    rintro e w' ⟨rfl, rfl⟩
    refine ⟨_, rfl, RowKit.Below.refl _ _, fun ok' => ?_⟩
    exact .str []
  rcases hh with hh | ⟨b, off, cv, rfl, hs, h1, h2⟩
  · exact absurd (List.map_eq_nil_iff.1 hh) hnil
  have hc : ∀ (j : Nat) x, (l.map fun x => ByteArray.mk x.toArray)[j]? = some x → w.cell? ⟨b, off + j, none⟩ = some (.string x) := fun j x hx => by
    simp only [List.getElem?_map, Option.map_eq_some_iff] at hx
    obtain ⟨y, hy, rfl⟩ := hx
    have hx : (l.map AV.str)[j]? = some (.str y) := by simp [hy]
    have g1 := h1 j _ 0 _ hx rfl
    have g2 := (h2 j _ 0 _ hx rfl).strInv
    rw [g2] at g1
    simpa using g1.2.1
  have hb : b < w.heap.size := by
    obtain ⟨x, hx⟩ : ∃ x, l[0]? = some x := by cases l with | nil => exact absurd rfl hnil | cons x r => exact ⟨x, rfl⟩
    have g1 := h1 0 (.str x) 0 _ (by simp [hx]) rfl
    exact hok _ _ g1.1
  have key := Tryd.strings_Join b off cap (l.map fun x => ByteArray.mk x.toArray) ⟨p.toArray⟩ w hc hb (by simp; omega) (by simpa using hcap) (by rw [hmap]; exact hj)
  rw [hmap, List.length_map] at key
  have e2 : (l.map AV.str).length = l.length := by simp
  rw [e2]
  refine key.mono ?_
  rintro e w' ⟨rfl, hb⟩
  exact ⟨_, rfl, hb, fun ok' => .str _⟩
def tb_specJoin : List Blk → List AV → Option (List Blk × AV × Prop)
  | [], [a0, .str p] => some ([], .str (Lib.join (dec_strs a0) p), ((dec_strs a0).length ≤ 1000000) ∧ ((Lib.join (dec_strs a0) p).length ≤ 140737488355328) ∧ argOK a0 (enc_strs (dec_strs a0)))
  | _, _ => none
theorem tb_specJoin_ok : ∀ E args E' res p, tb_specJoin E args = some (E', res, p) → p → SpecE Tryd.prog 39 E args E' res := by
  intro E args E' res p h hp
  unfold tb_specJoin at h
  split at h
  · simp only [Option.some.injEq, Prod.mk.injEq] at h
    obtain ⟨rfl, rfl, rfl⟩ := h
    exact SpecE.args (specJoin _ _ hp.1 hp.2.1) (.cons hp.2.2 (.cons (argOK.refl _) .nil))
  · cases h
end Go.Proofs.Tryd.Lib
