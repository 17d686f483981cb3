/- slices: what is computed. No condition. -/
import Derived.Test.YtnfidlgiaaeleaaDoorOctM
set_option linter.unusedVariables false
set_option linter.unusedSimpArgs false
namespace Go.Mdl
open Go Go.Abs

/-- The place of the first element that is so; -1: there is none. -/
def idxP {α : Type} (p : α → Bool) (l : List α) : Int := if l.any p = true then (l.findIdx p : Int) else -1
theorem idxP_range {α : Type} (p : α → Bool) (l : List α) : -1 ≤ idxP p l ∧ idxP p l < l.length ∨ idxP p l = -1 := by
  unfold idxP
  split
  · rename_i h
    have := List.findIdx_lt_length.2 (List.any_eq_true.1 h)
    omega
  · exact .inr rfl
theorem idxP_ge {α : Type} (p : α → Bool) (l : List α) : (0 ≤ idxP p l) ↔ l.any p = true := by
  unfold idxP
  split <;> rename_i h
  · simp [h]
  · simp [h]
theorem idxP_hit {α : Type} {p : α → Bool} {l : List α} {x : Nat} (d : α) (hx : x < l.length) (hn : (l.take x).any p = false) (hp : p (l.getD x d) = true) : idxP p l = x := by
  have hg := getD_of_lt (s := l) (d := d) hx
  have ha : l.any p = true := List.any_eq_true.2 ⟨_, List.mem_of_getElem? hg, hp⟩
  unfold idxP
  rw [if_pos ha]
  congr 1
  rw [List.findIdx_eq hx]
  have he : l[x] = l.getD x d := by rw [List.getElem?_eq_getElem hx] at hg; exact Option.some.inj hg
  refine ⟨by rw [he]; exact hp, fun j hj => ?_⟩
  rw [← Bool.not_eq_true]
  intro h
  have : (l.take x).any p = true := List.any_eq_true.2 ⟨l[j], by
    rw [List.mem_take_iff_getElem]
    exact ⟨j, by omega, rfl⟩, h⟩
  rw [hn] at this; cases this
theorem idxP_none {α : Type} {p : α → Bool} {l : List α} (hn : l.any p = false) : idxP p l = -1 := by simp [idxP, hn]
theorem any_take_succ {α : Type} {p : α → Bool} {l : List α} {k : Nat} (d : α) (h : k < l.length) (hn : (l.take k).any p = false) : (l.take (k + 1)).any p = p (l.getD k d) := by
  rw [take_succ_getD d h, List.any_append, hn]; simp
theorem any_hit {α : Type} {p : α → Bool} {l : List α} {k : Nat} (d : α) (h : k < l.length) (hp : p (l.getD k d) = true) : l.any p = true :=
  List.any_eq_true.2 ⟨_, List.mem_of_getElem? (getD_of_lt (s := l) (d := d) h), hp⟩

/-- What stays, and empty places behind. -/
def delP {α : Type} (d : α) (p : α → Bool) (l : List α) : List α := (l.filter fun x => !p x) ++ List.replicate (l.length - (l.filter fun x => !p x).length) d
theorem delP_len {α : Type} (d : α) (p : α → Bool) (l : List α) : (delP d p l).length = l.length := by
  have := List.length_filter_le (fun x => !p x) l
  simp [delP]; omega
theorem delP_take {α : Type} (d : α) (p : α → Bool) (l : List α) : (delP d p l).take (l.filter fun x => !p x).length = l.filter fun x => !p x := by simp [delP]
theorem idxP_none' {α : Type} {p : α → Bool} {l : List α} (h : idxP p l = -1) : l.any p = false := by
  rw [← Bool.not_eq_true]; intro h2
  have := (idxP_ge p l).2 h2
  omega
theorem filter_none {α : Type} {p : α → Bool} {l : List α} (h : l.any p = false) : (l.filter fun x => !p x) = l := by
  rw [List.filter_eq_self]
  intro x hx
  rw [List.any_eq_false] at h
  simpa using h x hx
theorem idxP_some {α : Type} {p : α → Bool} {l : List α} (d : α) (h : idxP p l ≠ -1) : ∃ x : Nat, idxP p l = x ∧ x < l.length ∧ (l.take x).any p = false ∧ p (l.getD x d) = true := by
  unfold idxP at h ⊢
  split at h
  · rename_i ha
    have hl := List.findIdx_lt_length.2 (List.any_eq_true.1 ha)
    rw [if_pos ha]
    refine ⟨_, rfl, hl, ?_, ?_⟩
    · rw [List.any_eq_false]
      intro y hy
      obtain ⟨j, hj, rfl⟩ := List.mem_take_iff_getElem.1 hy
      have := List.not_of_lt_findIdx (p := p) (xs := l) (i := j) (by omega)
      simpa using this
    · have h1 := List.findIdx_getElem (p := p) (xs := l) (w := hl)
      have h2 := getD_of_lt (s := l) (d := d) hl
      rw [List.getElem?_eq_getElem hl] at h2
      rw [← Option.some.inj h2]; exact h1
  · exact absurd rfl h

theorem set_take {α : Type} {c : List α} {i : Nat} (h : i < c.length) (w : α) : (c.set i w).take (i + 1) = c.take i ++ [w] := by
  rw [List.set_eq_take_append_cons_drop, if_pos h]
  have hl : (c.take i).length = i := by rw [List.length_take]; omega
  rw [List.take_append, hl, List.take_of_length_le (by omega), show i + 1 - i = 1 by omega]; rfl
theorem set_drop {α : Type} {c : List α} {i j : Nat} (h : i < j) (w : α) : (c.set i w).drop j = c.drop j := by
  apply List.ext_getElem?
  intro k
  rw [List.getElem?_drop, List.getElem?_drop, List.getElem?_set_ne (by omega)]
theorem drop_eq_getD {α : Type} {a b : List α} {j : Nat} (d : α) (h : a.drop j = b.drop j) : a.getD j d = b.getD j d := by
  have := congrArg (fun l => l[0]?) h
  simp only [List.getElem?_drop, Nat.add_zero] at this
  simp only [List.getD_eq_getElem?_getD, this]
theorem drop_eq_succ {α : Type} {a b : List α} {j : Nat} (h : a.drop j = b.drop j) : a.drop (j + 1) = b.drop (j + 1) := by
  rw [← List.drop_drop, h, List.drop_drop]

/-- What stands in a box that is handed in: no block hangs on it. -/
structure BoxOK (v : List AV) : Prop where
  pids : pidsL v = []
  ren : ∀ σ, v.map (ren σ) = v
  ref : oneRef v = none
  cells : pureEl v = true
theorem boxStr (s : List UInt8) : BoxOK [.str s] := ⟨rfl, fun _ => rfl, rfl, rfl⟩
theorem boxList (n : Nat) (l : List AV) : BoxOK [.list n l] := ⟨rfl, fun _ => rfl, rfl, rfl⟩
theorem boxStrs (l : List (List UInt8)) : BoxOK (l.map .str) := ⟨pidsL_map (fun _ => rfl) l, fun _ => ren_map (fun _ => rfl) l, oneRef_map (fun _ => rfl) l, pureEl_map _ l (fun _ => rfl)⟩
def enc_fld (p : List UInt8 × List UInt8) : AV := .agg [.str p.1, .str p.2]
def dec_fld : AV → List UInt8 × List UInt8
  | .agg [.str a, .str b] => (a, b)
  | _ => ([], [])
theorem boxFld (p : List UInt8 × List UInt8) : BoxOK [.agg [.str p.1, .str p.2]] := ⟨rfl, fun _ => rfl, rfl, rfl⟩
theorem getD_map_fld (l : List (List UInt8 × List UInt8)) (n : Nat) : (l.map enc_fld).getD n (.agg [.str [], .str []]) = enc_fld (l.getD n ([], [])) := by
  simp only [List.getD_eq_getElem?_getD, List.getElem?_map]; cases l[n]? <;> rfl
def enc_flds (l : List (List UInt8 × List UInt8)) : AV := .list 2 (l.map enc_fld)
def dec_flds (a : AV) : List (List UInt8 × List UInt8) := (listOf a).map dec_fld
theorem map_fld (l : List (List UInt8 × List UInt8)) : (l.map enc_fld).map dec_fld = l := by simp [List.map_map, Function.comp_def, enc_fld, dec_fld]
theorem pure_fld (p : List UInt8 × List UInt8) : pureBL (enc_fld p).cells = true := rfl
theorem pids_fld (p : List UInt8 × List UInt8) : pids (enc_fld p) = [] := rfl
theorem ren_fld (σ : Nat → Nat) (p : List UInt8 × List UInt8) : ren σ (enc_fld p) = enc_fld p := rfl
theorem ref_fld (p : List UInt8 × List UInt8) : refOf (enc_fld p) = none := rfl
theorem cells_fld (p : List UInt8 × List UInt8) : (enc_fld p).cells = [.str p.1, .str p.2] := rfl
theorem pureEl_fld (l : List (List UInt8 × List UInt8)) : pureEl (l.map enc_fld) = true := pureEl_map enc_fld l (fun _ => rfl)
theorem oneRef_fld (l : List (List UInt8 × List UInt8)) : oneRef (l.map enc_fld) = none := oneRef_map (fun _ => rfl) l
theorem pidsL_fld (l : List (List UInt8 × List UInt8)) : pidsL (l.map enc_fld) = [] := pidsL_map (fun _ => rfl) l
theorem renL_fld (σ : Nat → Nat) (l : List (List UInt8 × List UInt8)) : (l.map enc_fld).map (ren σ) = l.map enc_fld := ren_map (fun _ => rfl) l
attribute [go_sem] enc_fld pureEl_fld oneRef_fld pidsL_fld renL_fld cells_fld getD_map_fld map_fld pure_fld pids_fld ren_fld ref_fld enc_flds dec_flds
end Go.Mdl
