import Derived.Test.YtoegojolimaodaaGreatDoorShRA
import Derived.Still
section
set_option linter.unusedVariables false
set_option linter.unusedSimpArgs false
namespace Go.Abs
mutual
def AV.pureB : AV → Bool
  | .ref .. | .ptr .. | .it _ | .yld _ | .own .. | .mp _ => false
  | .agg cs | .tuple cs | .clo _ _ cs => pureBL cs
  | .cond _ v => v.pureB
  | _ => true
def pureBL : List AV → Bool
  | [] => true
  | a :: r => a.pureB && pureBL r
end
theorem pureBL_iff {l : List AV} : pureBL l = true ↔ ∀ (i : Nat) (a : AV), l[i]? = some a → a.pureB = true := by
  induction l with
  | nil => simp [pureBL]
  | cons a l ih =>
    simp only [pureBL, Bool.and_eq_true, ih]
    constructor
    · rintro ⟨h1, h2⟩ i b hb
      cases i with
      | zero => simp at hb; subst hb; exact h1
      | succ i => exact h2 i b (by simpa using hb)
    · intro h
      exact ⟨h 0 a rfl, fun i b hb => h (i + 1) b (by simpa using hb)⟩
theorem R.toRp {w ok L φ a v} (h : R w ok L φ a v) (hp : a.pureB = true) : Rp w ok a v := by
  induction h with
  | pure a v h => exact h
  | ref => simp [AV.pureB] at hp
  | ptr => simp [AV.pureB] at hp
  | it => simp [AV.pureB] at hp
  | yld => simp [AV.pureB] at hp
  | mp => simp [AV.pureB] at hp
  | agg cs vs hl h1 h ih =>
    simp only [AV.pureB, pureBL_iff] at hp
    exact .agg cs vs hl h1 (fun i a v ha hv => ih i a v ha hv (hp i a ha))
  | tuple cs vs hl h ih =>
    simp only [AV.pureB, pureBL_iff] at hp
    exact .tuple cs vs hl (fun i a v ha hv => ih i a v ha hv (hp i a ha))
  | clo f k cs vs hl h ih =>
    simp only [AV.pureB, pureBL_iff] at hp
    exact .clo f k cs vs hl (fun i a v ha hv => ih i a v ha hv (hp i a ha))
  | condT a v h ih => exact .condT a v (ih (by simpa [AV.pureB] using hp))
def pureEl (c : List AV) : Bool := c.all fun x => pureBL x.cells
def cel1 (c : List AV) : List AV := (c.getD 0 .any).cells
theorem cel1_one (x : AV) : cel1 [x] = x.cells := rfl
mutual
def purA (L : Nat → Option Blk) : AV → Option (AV × List Nat × Prop)
  | .ref id off len hw => match L id with
    | some (.cells sz _ _ c) => some (.list sz ((c.drop off).take len), [id], hw = c.length ∧ pureEl c = true)
    | _ => none
  | .agg cs => match purL L cs with
    | some (cs', ids, q) => some (.agg cs', ids, q)
    | none => none
  | .tuple cs => match purL L cs with
    | some (cs', ids, q) => some (.tuple cs', ids, q)
    | none => none
  | .any => some (.any, [], True)
  | .bool b => some (.bool b, [], True)
  | .int k n => some (.int k n, [], True)
  | .str s => some (.str s, [], True)
  | .list sz l => some (.list sz l, [], True)
  | .iface t a => some (.iface t a, [], True)
  | .radr l => some (.radr l, [], True)
  | .nils => some (.nils, [], True)
  | .nil0 => some (.nil0, [], True)
  | .nilp => some (.nilp, [], True)
  | .nili => some (.nili, [], True)
  | .nilf => some (.nilf, [], True)
  | .clo f k cs => match purL L cs with
    | some (cs', ids, q) => some (.clo f k cs', ids, q)
    | none => none
  | .ptr id i j hw => if i = 0 ∧ j = 0 ∧ hw = 1 then (match L id with
    | some (.cells _ _ _ c) => some (.radr (cel1 c), [id], pureBL (cel1 c) = true ∧ c.length = 1)
    | _ => none) else none
  | _ => none
def purL (L : Nat → Option Blk) : List AV → Option (List AV × List Nat × Prop)
  | [] => some ([], [], True)
  | a :: r => match purA L a, purL L r with
    | some (a', i, q), some (r', j, s) => some (a' :: r', i ++ j, q ∧ s)
    | _, _ => none
end
def Seen (L : Nat → Option Blk) (φ : Nat → Option Nat) (ids : List Nat) (b o : Nat) : Prop :=
  ∃ id ∈ ids, φ id = some b ∧ ∃ sz ro d c, L id = some (.cells sz ro d c) ∧ o < c.length * sz
theorem pureEl_iff {c : List AV} : pureEl c = true ↔ ∀ (i : Nat) (x : AV), c[i]? = some x → pureBL x.cells = true := by
  simp only [pureEl, List.all_eq_true]
  constructor
  · intro h i x hx; exact h x (List.mem_of_getElem? hx)
  · intro h x hx
    obtain ⟨i, hi, rfl⟩ := List.mem_iff_getElem.1 hx
    exact h i _ (List.getElem?_eq_getElem hi)
theorem Rp.of_re {w ok okv sz b off cap l vs} (L : Nat → Option Blk) (φ : Nat → Option Nat) (hre : RE w ok L φ sz l vs) (hok : ∀ b o, ok b o → okv b o) (hp : pureEl l = true)
    (hcell : ∀ (j : Nat) (u : Value), vs[j]? = some u → okv b (off + j) ∧ w.cell? ⟨b, off + j, none⟩ = some u) (hcap : l.length ≤ cap) (hm : cap ≤ maxLen) :
    Rp w okv (.list sz l) (.slice (some ⟨b, off, none⟩) l.length cap) := by
  have key : ∀ (i : Nat) (x : AV) (j : Nat) (y : AV), l[i]? = some x → x.cells[j]? = some y → ∃ v, vs[i * sz + j]? = some v ∧ v.oneCell' = true ∧ Rp w okv y v := by
    intro i x j y hx hy
    obtain ⟨v, h1, h2, h3⟩ := hre.2.2 i x j y hx hy
    exact ⟨v, h1, h2, (h3.toRp (pureBL_iff.1 (pureEl_iff.1 hp i x hx) j y hy)).mono hok (fun _ _ _ => rfl)⟩
  refine .list sz l b off cap (fun i j => vs.getD (i * sz + j) (.bool false)) hcap hm hre.2.1 (fun i x j y hx hy => ?_) (fun i x j y hx hy => ?_)
  · obtain ⟨v, h1, h2, _⟩ := key i x j y hx hy
    obtain ⟨h4, h5⟩ := hcell _ _ h1
    have : vs.getD (i * sz + j) (.bool false) = v := by simp [List.getD_eq_getElem?_getD, h1]
    rw [this, Nat.add_assoc]
    exact ⟨h4, h5, h2⟩
  · obtain ⟨v, h1, _, h3⟩ := key i x j y hx hy
    have : vs.getD (i * sz + j) (.bool false) = v := by simp [List.getD_eq_getElem?_getD, h1]
    rw [this]; exact h3
theorem RE.mem_sub {c : List AV} {o n : Nat} (h : pureEl c = true) : pureEl ((c.drop o).take n) = true := by
  rw [pureEl_iff] at h ⊢
  intro i x hx
  rw [List.getElem?_take] at hx
  split at hx
  · rw [List.getElem?_drop] at hx; exact h _ _ hx
  · simp at hx
mutual
theorem purA_ok {w ok L φ} (hh : HeapOK w ok L φ) {okv : Nat → Nat → Prop} : ∀ {a a' ids q v}, purA L a = some (a', ids, q) → q → R w ok L φ a v → (∀ b o, ok b o → okv b o) →
    (∀ b o, Seen L φ ids b o → okv b o) → Rp w okv a' v
  | .ref id off len hw, a', ids, q, v, h, hq, hr, hok, hs => by
    simp only [purA] at h
    split at h <;> simp only [Option.some.injEq, reduceCtorEq, Prod.mk.injEq] at h
    rename_i sz ro d c hL
    obtain ⟨rfl, rfl, rfl⟩ := h
    obtain ⟨hw1, hpe⟩ := hq
    obtain ⟨sz1, ro1, d1, c1, hL1, hle, ⟨a, n, cap, rfl⟩, hr'⟩ := hr.refInv
    rw [hL] at hL1; cases hL1
    obtain ⟨g1, g2⟩ := hr' hw1
    have hlen : ((c.drop off).take len).length = len := by simp; omega
    rcases g2 with ⟨g2, a1, g3⟩ | ⟨b, cap', pa, g2, g3, g4, g5, g6⟩
    · cases g3
      have : ((c.drop off).take len) = [] := List.eq_nil_of_length_eq_zero (by rw [hlen]; omega)
      rw [this]
      exact .list0 sz _ 0 (Nat.zero_le _)
    · cases g3
      rcases hh.live g2 with ⟨sz1, ro1, d1, c1, vs, rest, e, lo', hi', h1, h2, h3, h4⟩ | ⟨blk1, o1, h1, _, ho1⟩
      · rw [hL] at h1; cases h1
        rcases g6 with g6 | ⟨rfl, g7⟩
        · have : ((c.drop off).take len) = [] := List.eq_nil_of_length_eq_zero (by rw [hlen]; omega)
          rw [this]
          have hl0 : len = 0 := by omega
          subst hl0
          exact .list0 sz _ cap g5
        · have key := Rp.of_re (b := b) (off := off * sz) (cap := cap) L φ (h4.sub off len) hok (RE.mem_sub hpe) (fun j u hj => by
            rw [List.getElem?_take] at hj
            split at hj
            · rw [List.getElem?_drop] at hj
              have hlt := (List.getElem?_eq_some_iff.1 hj).1
              refine ⟨hs b _ ⟨id, by simp, g2, sz, ro, d, c, hL, by rw [← h4.1]; exact hlt⟩, ?_⟩
              rw [cell_blk h2]
              simp [List.getElem?_append_left hlt, hj]
            · simp at hj) (by rw [hlen]; exact g4) g5
          rwa [hlen] at key
      · rw [hL] at h1; cases h1; cases ho1
  | .agg cs, a', ids, q, v, h, hq, hr, hok, hs => by
    simp only [purA] at h
    split at h <;> simp only [Option.some.injEq, reduceCtorEq, Prod.mk.injEq] at h
    rename_i cs' ids' q' hl
    obtain ⟨rfl, rfl, rfl⟩ := h
    obtain ⟨vs, rfl, hlen, h1, h2⟩ := hr.aggInv
    obtain ⟨h3, h4⟩ := purL_ok hh hl hq hlen h2 hok hs
    exact .agg cs' vs h3 h1 h4
  | .tuple cs, a', ids, q, v, h, hq, hr, hok, hs => by
    simp only [purA] at h
    split at h <;> simp only [Option.some.injEq, reduceCtorEq, Prod.mk.injEq] at h
    rename_i cs' ids' q' hl
    obtain ⟨rfl, rfl, rfl⟩ := h
    obtain ⟨vs, rfl, hlen, h2⟩ : ∃ vs : List Value, v = .tuple vs.toArray ∧ vs.length = cs.length ∧ (∀ (i : Nat) (a : AV) (v : Value), cs[i]? = some a → vs[i]? = some v → R w ok L φ a v) := by
      cases hr with
      | pure _ _ h => cases h with | tuple _ vs hl h2 => exact ⟨vs, rfl, hl, fun i a v ha hv => .pure _ _ (h2 i a v ha hv)⟩
      | tuple _ vs hl h2 => exact ⟨vs, rfl, hl, h2⟩
    obtain ⟨h3, h4⟩ := purL_ok hh hl hq hlen h2 hok hs
    exact .tuple cs' vs h3 h4
  | .any, a', ids, q, v, h, hq, hr, hok, hs => by simp only [purA, Option.some.injEq, Prod.mk.injEq] at h; obtain ⟨rfl, _⟩ := h; exact .any v
  | .bool b, a', ids, q, v, h, hq, hr, hok, hs => by simp only [purA, Option.some.injEq, Prod.mk.injEq] at h; obtain ⟨rfl, _⟩ := h; exact (hr.toRp rfl).mono hok (fun _ _ _ => rfl)
  | .int k n, a', ids, q, v, h, hq, hr, hok, hs => by simp only [purA, Option.some.injEq, Prod.mk.injEq] at h; obtain ⟨rfl, _⟩ := h; exact (hr.toRp rfl).mono hok (fun _ _ _ => rfl)
  | .str s, a', ids, q, v, h, hq, hr, hok, hs => by simp only [purA, Option.some.injEq, Prod.mk.injEq] at h; obtain ⟨rfl, _⟩ := h; exact (hr.toRp rfl).mono hok (fun _ _ _ => rfl)
  | .list sz l, a', ids, q, v, h, hq, hr, hok, hs => by simp only [purA, Option.some.injEq, Prod.mk.injEq] at h; obtain ⟨rfl, _⟩ := h; exact (hr.toRp rfl).mono hok (fun _ _ _ => rfl)
  | .iface t a, a', ids, q, v, h, hq, hr, hok, hs => by simp only [purA, Option.some.injEq, Prod.mk.injEq] at h; obtain ⟨rfl, _⟩ := h; exact (hr.toRp rfl).mono hok (fun _ _ _ => rfl)
  | .radr l, a', ids, q, v, h, hq, hr, hok, hs => by simp only [purA, Option.some.injEq, Prod.mk.injEq] at h; obtain ⟨rfl, _⟩ := h; exact (hr.toRp rfl).mono hok (fun _ _ _ => rfl)
  | .nils, a', ids, q, v, h, hq, hr, hok, hs => by simp only [purA, Option.some.injEq, Prod.mk.injEq] at h; obtain ⟨rfl, _⟩ := h; exact (hr.toRp rfl).mono hok (fun _ _ _ => rfl)
  | .nil0, a', ids, q, v, h, hq, hr, hok, hs => by simp only [purA, Option.some.injEq, Prod.mk.injEq] at h; obtain ⟨rfl, _⟩ := h; exact (hr.toRp rfl).mono hok (fun _ _ _ => rfl)
  | .nilp, a', ids, q, v, h, hq, hr, hok, hs => by simp only [purA, Option.some.injEq, Prod.mk.injEq] at h; obtain ⟨rfl, _⟩ := h; exact (hr.toRp rfl).mono hok (fun _ _ _ => rfl)
  | .nili, a', ids, q, v, h, hq, hr, hok, hs => by simp only [purA, Option.some.injEq, Prod.mk.injEq] at h; obtain ⟨rfl, _⟩ := h; exact (hr.toRp rfl).mono hok (fun _ _ _ => rfl)
  | .nilf, a', ids, q, v, h, hq, hr, hok, hs => by simp only [purA, Option.some.injEq, Prod.mk.injEq] at h; obtain ⟨rfl, _⟩ := h; exact (hr.toRp rfl).mono hok (fun _ _ _ => rfl)
  | .clo f k cs, a', ids, q, v, h, hq, hr, hok, hs => by
    simp only [purA] at h
    split at h <;> simp only [Option.some.injEq, reduceCtorEq, Prod.mk.injEq] at h
    rename_i cs' ids' q' hl
    obtain ⟨rfl, rfl, rfl⟩ := h
    obtain ⟨vs, rfl, hlen, h2⟩ : ∃ vs : List Value, v = .func (.func f) (vs.take k).toArray (vs.drop k).toArray ∧ vs.length = cs.length ∧ (∀ (i : Nat) (a : AV) (v : Value), cs[i]? = some a → vs[i]? = some v → R w ok L φ a v) := by
      cases hr with
      | pure _ _ h => cases h with | clo _ _ _ vs hl h2 => exact ⟨vs, rfl, hl, fun i a v ha hv => .pure _ _ (h2 i a v ha hv)⟩
      | clo _ _ _ vs hl h2 => exact ⟨vs, rfl, hl, h2⟩
    obtain ⟨h3, h4⟩ := purL_ok hh hl hq hlen h2 hok hs
    exact .clo f k cs' vs h3 h4
  | .own .., a', ids, q, v, h, hq, hr, hok, hs => by simp [purA] at h
  | .ptr id i j hw, a', ids, q, v, h, hq, hr, hok, hs => by
    simp only [purA] at h
    split at h
    · rename_i hc
      obtain ⟨rfl, rfl, rfl⟩ := hc
      split at h <;> simp only [Option.some.injEq, reduceCtorEq, Prod.mk.injEq] at h
      rename_i sz ro d c0 hL
      obtain ⟨rfl, rfl, rfl⟩ := h
      obtain ⟨hq, hone⟩ := hq
      obtain ⟨x, rfl⟩ : ∃ x, c0 = [x] := by
        cases c0 with
        | nil => simp at hone
        | cons x r => cases r with
          | nil => exact ⟨x, rfl⟩
          | cons y r => simp at hone
      rw [cel1_one] at hq ⊢
      obtain ⟨pa, sz1, ro1, d1, c1, rfl, hL1, hle, hr'⟩ := hr.ptrInv
      rw [hL] at hL1; cases hL1
      obtain ⟨b, g2, rfl⟩ := hr' rfl
      rcases hh.live g2 with ⟨sz1, ro1, d1, c1, vs, rest, e, lo', hi', h1, h2, h3, h4⟩ | ⟨blk1, o1, h1, _, ho1⟩
      · rw [hL] at h1; cases h1
        have key : ∀ (j : Nat) (y : AV), x.cells[j]? = some y → ∃ v, vs[j]? = some v ∧ v.oneCell' = true ∧ R w ok L φ y v := fun j y hy => by
          obtain ⟨v, k1, k2, k3⟩ := h4.2.2 0 x j y rfl hy
          rw [Nat.zero_mul, Nat.zero_add] at k1
          exact ⟨v, k1, k2, k3⟩
        have hg : ∀ (j : Nat) (v : Value), vs[j]? = some v → vs.getD j (.bool false) = v := fun j v hj => by simp [List.getD_eq_getElem?_getD, hj]
        have hz : (0 * sz + 0 : Nat) = 0 := by omega
        rw [hz]
        refine .radr x.cells b 0 (fun j => vs.getD j (.bool false)) (fun j y hy => ?_) (fun j y hy => ?_)
        · obtain ⟨v, k1, k2, k3⟩ := key j y hy
          have hlt := (List.getElem?_eq_some_iff.1 k1).1
          rw [hg j v k1]
          refine ⟨hs b _ ⟨id, by simp, g2, sz, ro, d, [x], hL, by rw [← h4.1]; omega⟩, ?_, k2⟩
          rw [cell_blk h2]
          simp [List.getElem?_append_left hlt, k1]
        · obtain ⟨v, k1, k2, k3⟩ := key j y hy
          rw [hg j v k1]
          exact (k3.toRp (pureBL_iff.1 hq j y hy)).mono hok (fun _ _ _ => rfl)
      · rw [hL] at h1; cases h1; cases ho1
    · simp at h
  | .it _, a', ids, q, v, h, hq, hr, hok, hs => by simp [purA] at h
  | .mp _, a', ids, q, v, h, hq, hr, hok, hs => by simp [purA] at h
  | .yld _, a', ids, q, v, h, hq, hr, hok, hs => by simp [purA] at h
  | .nxt .., a', ids, q, v, h, hq, hr, hok, hs => by simp [purA] at h
  | .cond .., a', ids, q, v, h, hq, hr, hok, hs => by simp [purA] at h
theorem purL_ok {w ok L φ} (hh : HeapOK w ok L φ) {okv : Nat → Nat → Prop} : ∀ {l l' ids q} {vs : List Value}, purL L l = some (l', ids, q) → q → vs.length = l.length →
    (∀ (i : Nat) (a : AV) (v : Value), l[i]? = some a → vs[i]? = some v → R w ok L φ a v) → (∀ b o, ok b o → okv b o) → (∀ b o, Seen L φ ids b o → okv b o) →
    vs.length = l'.length ∧ ∀ (i : Nat) (a : AV) (v : Value), l'[i]? = some a → vs[i]? = some v → Rp w okv a v
  | [], l', ids, q, vs, h, hq, hl, hr, hok, hs => by
    simp only [purL, Option.some.injEq, Prod.mk.injEq] at h
    obtain ⟨rfl, _⟩ := h
    exact ⟨hl, fun i a v ha => by simp at ha⟩
  | a :: r, l', ids, q, [], h, hq, hl, hr, hok, hs => by simp at hl
  | a :: r, l', ids, q, u :: us, h, hq, hl, hr, hok, hs => by
    simp only [purL] at h
    split at h <;> simp only [Option.some.injEq, reduceCtorEq, Prod.mk.injEq] at h
    rename_i a1 i1 q1 r1 j1 s1 ha hrr
    obtain ⟨rfl, rfl, rfl⟩ := h
    have h1 := purA_ok hh ha hq.1 (hr 0 a u rfl rfl) hok (fun b o ⟨id, hid, hrest⟩ => hs b o ⟨id, List.mem_append_left _ hid, hrest⟩)
    obtain ⟨h2, h3⟩ := purL_ok (vs := us) hh hrr hq.2 (by simpa using hl) (fun i x v hx hv => hr (i + 1) x v (by simpa using hx) (by simpa using hv)) hok
      (fun b o ⟨id, hid, hrest⟩ => hs b o ⟨id, List.mem_append_right _ hid, hrest⟩)
    refine ⟨by simp [h2], fun i x v hx hv => ?_⟩
    cases i with
    | zero => simp at hx hv; subst hx; subst hv; exact h1
    | succ i => exact h3 i x v (by simpa using hx) (by simpa using hv)
end
end Go.Abs
set_option linter.unusedVariables false
set_option linter.unusedSimpArgs false
namespace Go.Abs
def lkE (E : List Blk) : Nat → Option Blk := fun i => E[i]?
structure PostE (w : World) (ok : Nat → Nat → Prop) (L : Nat → Option Blk) (φ : Nat → Option Nat) (w' : World) (ok' : Nat → Nat → Prop) (φ' : Nat → Option Nat) (L' : Nat → Option Blk) (res : AV) (v : Value) : Prop where
  frame : Fr (fun b => ∃ i, φ i = some b) w w'
  heap : HeapOK w' ok' L' φ'
  val : R w' ok' L' φ' res v
  kept : Keeps w ok L φ w' ok' L' φ'
  own : ∀ i b, φ' i = some b → (∃ j, φ j = some b) ∨ w.heap.size ≤ b
  okDn : ∀ b o, ok' b o → ok b o ∨ w.heap.size ≤ b ∨ ∃ i, φ i = some b
def yldF : FuncId := 1000000
def Good (F : Fence) : Prop := F = Fence.wide ∨ ∃ l, F = Fence.wide.inRound l
def InvF (f : FuncId) (vs : List Value) : Sem Next :=
  if f = yldF then (match vs with
    | .func (.yield l) _ _ :: us => Instr.yield l us.toArray
    | _ => stuck "no yield")
  else callFunc f vs.toArray
def NextX (P : Program) (Q : Ending → World → Prop) : Next → World → Prop
  | .enter f args, w => Calls P f args w Q
  | .value v, w => Q (.returned v) w
  | .round l f tmps assign body, w => ∀ F, Good F → ∀ n, RoundIn F n P l f tmps assign body w Q
  | _, _ => False
def CallsX (P : Program) (f : FuncId) (vs : List Value) (w : World) (Q : Ending → World → Prop) : Prop :=
  ∃ nx w', (InvF f vs).run P w = .ok nx w' ∧ NextX P Q nx w'
theorem CallsX.mono {P : Program} {f : FuncId} {vs : List Value} {w : World} {Q Q' : Ending → World → Prop} (h : CallsX P f vs w Q) (hq : ∀ e w', Q e w' → Q' e w') : CallsX P f vs w Q' := by
  obtain ⟨nx, w', h1, h2⟩ := h
  refine ⟨nx, w', h1, ?_⟩
  cases nx with
  | enter f args => exact Calls.mono h2 hq
  | value v => exact hq _ _ h2
  | round l f tmps assign body => exact fun F hF n => (h2 F hF n).mono hq
  | _ => exact h2.elim
def callable (P : Program) (f : FuncId) : Bool :=
  match P.funcs[f]? with
  | some fn => fn.body.isSome && !(fn.name == "runtime.NumGoroutine")
  | none => false
theorem run_callFunc {P : Program} {w : World} {f : FuncId} {args : Array Value} (h : callable P f = true) : (callFunc f args).run P w = .ok (.enter f args) w := by
  unfold callable at h
  split at h
  · rename_i fn hf
    simp only [Bool.and_eq_true, Bool.not_eq_true', beq_eq_false_iff_ne, ne_eq] at h
    obtain ⟨h1, h2⟩ := h
    have h3 : ¬ fn.body = none := fun e => by simp [e] at h1
    simp [callFunc, hf, h2, h3]
  · simp at h
theorem CallsX.calls {P : Program} {f : FuncId} {vs : List Value} {w : World} {Q : Ending → World → Prop} (hc : callable P f = true) (hy : f ≠ yldF) (h : Calls P f vs.toArray w Q) : CallsX P f vs w Q :=
  ⟨.enter f vs.toArray, w, by simp only [InvF, if_neg hy]; exact run_callFunc hc, h⟩
theorem CallsX.toCalls {P : Program} {f : FuncId} {vs : List Value} {w : World} {Q : Ending → World → Prop} (hc : callable P f = true) (hy : f ≠ yldF) (h : CallsX P f vs w Q) : Calls P f vs.toArray w Q := by
  obtain ⟨nx, w', h1, h2⟩ := h
  simp only [InvF, if_neg hy] at h1
  rw [run_callFunc hc] at h1
  cases h1
  exact h2
def SpecE (P : Program) (f : FuncId) (E : List Blk) (args : List AV) (E' : List Blk) (res : AV) : Prop :=
  ∀ (w : World) (ok : Nat → Nat → Prop) (φ : Nat → Option Nat) (vs : List Value), HeapOK w ok (lkE E) φ → vs.length = args.length →
    (∀ (i : Nat) (a : AV) (v : Value), args[i]? = some a → vs[i]? = some v → R w ok (lkE E) φ a v) →
    CallsX P f vs w fun e w' => ∃ v ok' φ', e = .returned v ∧ PostE w ok (lkE E) φ w' ok' φ' (lkE E') res v
mutual
def ren (σ : Nat → Nat) : AV → AV
  | .ref id o n h => .ref (σ id) o n h
  | .ptr id i j h => .ptr (σ id) i j h
  | .it id => .it (σ id)
  | .mp id => .mp (σ id)
  | .yld id => .yld (σ id)
  | .agg cs => .agg (renL σ cs)
  | .tuple cs => .tuple (renL σ cs)
  | .clo f k cs => .clo f k (renL σ cs)
  | .cond e v => .cond e (ren σ v)
  | .any => .any
  | .bool b => .bool b
  | .int k n => .int k n
  | .str s => .str s
  | .list sz l => .list sz l
  | .own sz l => .own sz l
  | .radr l => .radr l
  | .nils => .nils
  | .nil0 => .nil0
  | .nilp => .nilp
  | .nili => .nili
  | .nilf => .nilf
  | .nxt m p r => .nxt m p r
  | .iface t a => .iface t a
def renL (σ : Nat → Nat) : List AV → List AV
  | [] => []
  | a :: r => ren σ a :: renL σ r
end
theorem renL_eq (σ : Nat → Nat) (l : List AV) : renL σ l = l.map (ren σ) := by
  induction l with
  | nil => rfl
  | cons a l ih => simp [renL, ih]
def renS (σ : Nat → Nat) : List (Nat × AV) → List (Nat × AV)
  | [] => []
  | (t, a) :: r => (t, ren σ a) :: renS σ r
theorem lkA_renS (σ : Nat → Nat) (t : Nat) : ∀ l : List (Nat × AV), lkA (renS σ l) t = ren σ (lkA l t)
  | [] => rfl
  | (k, a) :: r => by
    simp only [renS, lkA]
    split
    · rfl
    · exact lkA_renS σ t r
theorem ren_cells (σ : Nat → Nat) (a : AV) : (ren σ a).cells = a.cells.map (ren σ) := by
  cases a <;> simp [ren, AV.cells, renL_eq]
def renB (σ : Nat → Nat) : Blk → Blk
  | .cells sz ro d c => .cells sz ro (ren σ d) (c.map (ren σ))
  | .iter s pos => .iter s pos
  | .loop lc st pd sl => .loop lc st pd (renS σ sl)
  | .defer => .defer
  | .map es => .map es
theorem renB_isC (σ : Nat → Nat) (b : Blk) : (renB σ b).isC = b.isC := by cases b <;> rfl
theorem renB_same {σ : Nat → Nat} {b b' : Blk} (h : b.same b') : (renB σ b).same (renB σ b') := by
  cases b <;> cases b' <;> simp_all [Blk.same, renB]
theorem renB_same' {σ : Nat → Nat} {b : Blk} (h : (renB σ b).isC = false) : (renB σ b).same b := by
  cases b <;> simp_all [Blk.same, renB, Blk.isC]
theorem R.ren {w ok L φ w' ok' L' φ' a v} (σ : Nat → Nat) (hL : ∀ i b, L i = some b → L' (σ i) = some (renB σ b)) (hφ : ∀ i b, L i = some b → φ' (σ i) = φ i)
    (hok : ∀ b o, ok b o → ok' b o) (hc : ∀ b o, ok b o → w'.cell? ⟨b, o, none⟩ = w.cell? ⟨b, o, none⟩) (hcap : ∀ i blk b n, L i = some blk → φ i = some b → CapOK w b n → CapOK w' b n)
    (h : R w ok L φ a v) : R w' ok' L' φ' (Abs.ren σ a) v := by
  have pure : ∀ {a v}, Rp w ok a v → R w' ok' L' φ' (Abs.ren σ a) v := by
    intro a v h
    induction h with
    | any v => exact .pure _ _ (.any v)
    | bool b => exact .pure _ _ (.bool b)
    | int k n => exact .pure _ _ (.int k n)
    | str s => exact .pure _ _ (.str s)
    | agg cs vs hl h1 h ih =>
      simp only [Abs.ren, renL_eq]
      refine .agg _ vs (by simp [hl]) h1 (fun i a v ha hv => ?_)
      simp only [List.getElem?_map, Option.map_eq_some_iff] at ha
      obtain ⟨x, hx, rfl⟩ := ha
      exact ih i x v hx hv
    | tuple cs vs hl h ih =>
      simp only [Abs.ren, renL_eq]
      refine .tuple _ vs (by simp [hl]) (fun i a v ha hv => ?_)
      simp only [List.getElem?_map, Option.map_eq_some_iff] at ha
      obtain ⟨x, hx, rfl⟩ := ha
      exact ih i x v hx hv
    | list0 sz a cap hm => exact .pure _ _ (.list0 sz a cap hm)
    | list sz l b off cap cv hcap hm hsz h1 h _ => exact .pure _ _ ((Rp.list sz l b off cap cv hcap hm hsz h1 h).mono hok hc)
    | iface t a v h _ => exact .pure _ _ ((Rp.iface t a v h).mono hok hc)
    | radr cs b off cv h1 h _ => exact .pure _ _ ((Rp.radr cs b off cv h1 h).mono hok hc)
    | own sz l b h => exact .pure _ _ (.own sz l b h)
    | nils => exact .pure _ _ .nils
    | nil0 a => exact .pure _ _ (.nil0 a)
    | nilp => exact .pure _ _ .nilp
    | nili => exact .pure _ _ .nili
    | nilf => exact .pure _ _ .nilf
    | nxtT p r => exact .pure _ _ (.nxtT p r)
    | nxtF p r => exact .pure _ _ (.nxtF p r)
    | clo f k cs vs hl h ih =>
      simp only [Abs.ren, renL_eq]
      refine .clo f k _ vs (by simp [hl]) (fun i a v ha hv => ?_)
      simp only [List.getElem?_map, Option.map_eq_some_iff] at ha
      obtain ⟨x, hx, rfl⟩ := ha
      exact ih i x v hx hv
    | condT a v h ih => exact .condT _ v ih
    | condF a => exact .pure _ _ (.condF _)
  induction h with
  | pure a v h => exact pure h
  | ref id off len hw va vn vc sz ro d c hLi hle h =>
    refine .ref (σ id) off len hw va vn vc sz ro _ _ (hL _ _ hLi) (by simpa using hle) (fun e => ?_)
    obtain ⟨h1, h2⟩ := h (by simpa using e)
    refine ⟨h1, ?_⟩
    rcases h2 with h2 | ⟨b, cap, a, h3, h4, h5, h6, h7⟩
    · exact .inl h2
    · refine .inr ⟨b, cap, a, by rw [hφ _ _ hLi]; exact h3, h4, h5, h6, ?_⟩
      rcases h7 with h7 | ⟨h7, h8⟩
      · exact .inl h7
      · exact .inr ⟨h7, hcap _ _ _ _ hLi h3 h8⟩
  | ptr id i j hw pa sz ro d c hLi hle h =>
    refine .ptr (σ id) i j hw pa sz ro _ _ (hL _ _ hLi) (by simpa using hle) (fun e => ?_)
    obtain ⟨b, h1, h2⟩ := h (by simpa using e)
    exact ⟨b, by rw [hφ _ _ hLi]; exact h1, h2⟩
  | it id s pos b hLi hφi => exact .it (σ id) s pos b (hL _ _ hLi) (by rw [hφ _ _ hLi]; exact hφi)
  | mp id es b hLi hφi => exact .mp (σ id) es b (hL _ _ hLi) (by rw [hφ _ _ hLi]; exact hφi)
  | yld id lc st pd sl b hLi hφi => exact .yld (σ id) lc st pd _ b (hL _ _ hLi) (by rw [hφ _ _ hLi]; exact hφi)
  | agg cs vs hl h1 h ih =>
    simp only [Abs.ren, renL_eq]
    refine .agg _ vs (by simp [hl]) h1 (fun i a v ha hv => ?_)
    simp only [List.getElem?_map, Option.map_eq_some_iff] at ha
    obtain ⟨x, hx, rfl⟩ := ha
    exact ih i x v hx hv
  | tuple cs vs hl h ih =>
    simp only [Abs.ren, renL_eq]
    refine .tuple _ vs (by simp [hl]) (fun i a v ha hv => ?_)
    simp only [List.getElem?_map, Option.map_eq_some_iff] at ha
    obtain ⟨x, hx, rfl⟩ := ha
    exact ih i x v hx hv
  | clo f k cs vs hl h ih =>
    simp only [Abs.ren, renL_eq]
    refine .clo f k _ vs (by simp [hl]) (fun i a v ha hv => ?_)
    simp only [List.getElem?_map, Option.map_eq_some_iff] at ha
    obtain ⟨x, hx, rfl⟩ := ha
    exact ih i x v hx hv
  | condT a v h ih => exact .condT _ v ih
theorem RE.ren {w ok L φ w' ok' L' φ' sz c vs} (σ : Nat → Nat) (k : ∀ a v, R w ok L φ a v → R w' ok' L' φ' (Abs.ren σ a) v) (h : RE w ok L φ sz c vs) : RE w' ok' L' φ' sz (c.map (Abs.ren σ)) vs := by
  refine ⟨by simp [h.1], fun i x hx => ?_, fun i x j y hx hy => ?_⟩
  · simp only [List.getElem?_map, Option.map_eq_some_iff] at hx
    obtain ⟨z, hz, rfl⟩ := hx
    rw [ren_cells, List.length_map]; exact h.2.1 i z hz
  · simp only [List.getElem?_map, Option.map_eq_some_iff] at hx
    obtain ⟨z, hz, rfl⟩ := hx
    rw [ren_cells] at hy
    simp only [List.getElem?_map, Option.map_eq_some_iff] at hy
    obtain ⟨u, hu, rfl⟩ := hy
    obtain ⟨v, h1, h2, h3⟩ := h.2.2 i z j u hz hu
    exact ⟨v, h1, h2, k _ _ h3⟩
theorem R.unren {w ok L φ ok' L' φ' a v} (σ : Nat → Nat) (hL : ∀ i b, L (σ i) = some b → ∃ b', L' i = some b' ∧ b = renB σ b' ∧ φ' i = φ (σ i))
    (hok : ∀ b o, ok b o → ok' b o) (h : R w ok L φ a v) : ∀ a0, a = Abs.ren σ a0 → R w ok' L' φ' a0 v := by
  have pure : ∀ {a v}, Rp w ok a v → ∀ a0, a = Abs.ren σ a0 → R w ok' L' φ' a0 v := by
    intro a v h
    induction h with
    | any v => intro a0 e; cases a0 <;> simp [Abs.ren] at e; exact .pure _ _ (.any v)
    | bool b => intro a0 e; cases a0 <;> simp [Abs.ren] at e; subst e; exact .pure _ _ (.bool b)
    | int k n => intro a0 e; cases a0 <;> simp [Abs.ren] at e; obtain ⟨rfl, rfl⟩ := e; exact .pure _ _ (.int k n)
    | str s => intro a0 e; cases a0 <;> simp [Abs.ren] at e; subst e; exact .pure _ _ (.str s)
    | agg cs vs hl h1 h ih =>
      intro a0 e
      cases a0 <;> simp only [Abs.ren, renL_eq, AV.agg.injEq, reduceCtorEq] at e
      rename_i ds
      subst e
      exact .agg ds vs (by simpa using hl) h1 (fun i a v ha hv => ih i (Abs.ren σ a) v (by simp [ha]) hv a rfl)
    | tuple cs vs hl h ih =>
      intro a0 e
      cases a0 <;> simp only [Abs.ren, renL_eq, AV.tuple.injEq, reduceCtorEq] at e
      rename_i ds
      subst e
      exact .tuple ds vs (by simpa using hl) (fun i a v ha hv => ih i (Abs.ren σ a) v (by simp [ha]) hv a rfl)
    | list0 sz a cap hm => intro a0 e; cases a0 <;> simp [Abs.ren] at e; obtain ⟨rfl, rfl⟩ := e; exact .pure _ _ (.list0 sz a cap hm)
    | list sz l b off cap cv hcap hm hsz h1 h _ =>
      intro a0 e; cases a0 <;> simp [Abs.ren] at e; obtain ⟨rfl, rfl⟩ := e
      exact .pure _ _ ((Rp.list sz l b off cap cv hcap hm hsz h1 h).mono hok (fun _ _ _ => rfl))
    | radr cs b off cv h1 h _ =>
      intro a0 e; cases a0 <;> simp [Abs.ren] at e; subst e
      exact .pure _ _ ((Rp.radr cs b off cv h1 h).mono hok (fun _ _ _ => rfl))
    | own sz l b h => intro a0 e; cases a0 <;> simp [Abs.ren] at e; obtain ⟨rfl, rfl⟩ := e; exact .pure _ _ (.own sz l b h)
    | iface t a v h _ => intro a0 e; cases a0 <;> simp [Abs.ren] at e; obtain ⟨rfl, rfl⟩ := e; exact .pure _ _ ((Rp.iface t _ v h).mono hok (fun _ _ _ => rfl))
    | nils => intro a0 e; cases a0 <;> simp [Abs.ren] at e; exact .pure _ _ .nils
    | nil0 a => intro a0 e; cases a0 <;> simp [Abs.ren] at e; exact .pure _ _ (.nil0 a)
    | nilp => intro a0 e; cases a0 <;> simp [Abs.ren] at e; exact .pure _ _ .nilp
    | nili => intro a0 e; cases a0 <;> simp [Abs.ren] at e; exact .pure _ _ .nili
    | nilf => intro a0 e; cases a0 <;> simp [Abs.ren] at e; exact .pure _ _ .nilf
    | nxtT p r => intro a0 e; cases a0 <;> simp [Abs.ren] at e; obtain ⟨rfl, rfl, rfl⟩ := e; exact .pure _ _ (.nxtT p r)
    | nxtF p r => intro a0 e; cases a0 <;> simp [Abs.ren] at e; obtain ⟨rfl, rfl, rfl⟩ := e; exact .pure _ _ (.nxtF p r)
    | clo f k cs vs hl h ih =>
      intro a0 e
      cases a0 <;> simp only [Abs.ren, renL_eq, AV.clo.injEq, reduceCtorEq] at e
      rename_i g j ds
      obtain ⟨rfl, rfl, rfl⟩ := e
      exact .clo f _ ds vs (by simpa using hl) (fun i a v ha hv => ih i (Abs.ren σ a) v (by simp [ha]) hv a rfl)
    | condT a v h ih =>
      intro a0 e
      cases a0 <;> simp only [Abs.ren, AV.cond.injEq, reduceCtorEq] at e
      obtain ⟨rfl, rfl⟩ := e
      exact .condT _ v (ih _ rfl)
    | condF a =>
      intro a0 e
      cases a0 <;> simp only [Abs.ren, AV.cond.injEq, reduceCtorEq] at e
      obtain ⟨rfl, rfl⟩ := e
      exact .pure _ _ (.condF _)
  induction h with
  | pure a v h => exact pure h
  | ref id off len hw va vn vc sz ro d c hLi hle h =>
    intro a0 e
    cases a0 <;> simp only [Abs.ren, AV.ref.injEq, reduceCtorEq] at e
    rename_i id0 o0 l0 h0
    obtain ⟨rfl, rfl, rfl, rfl⟩ := e
    obtain ⟨b', h1, h2, h3⟩ := hL _ _ hLi
    cases b' <;> simp only [renB, Blk.cells.injEq, reduceCtorEq] at h2
    obtain ⟨rfl, rfl, rfl, rfl⟩ := h2
    refine .ref id0 off len hw va vn vc _ _ _ _ h1 (by simpa using hle) (fun e => ?_)
    obtain ⟨g1, g2⟩ := h (by simpa using e)
    refine ⟨g1, ?_⟩
    rw [h3]; exact g2
  | ptr id i j hw pa sz ro d c hLi hle h =>
    intro a0 e
    cases a0 <;> simp only [Abs.ren, AV.ptr.injEq, reduceCtorEq] at e
    rename_i id0 i0 j0 h0
    obtain ⟨rfl, rfl, rfl, rfl⟩ := e
    obtain ⟨b', h1, h2, h3⟩ := hL _ _ hLi
    cases b' <;> simp only [renB, Blk.cells.injEq, reduceCtorEq] at h2
    obtain ⟨rfl, rfl, rfl, rfl⟩ := h2
    refine .ptr id0 i j hw pa _ _ _ _ h1 (by simpa using hle) (fun e => ?_)
    rw [h3]; exact h (by simpa using e)
  | it id s pos b hLi hφi =>
    intro a0 e
    cases a0 <;> simp only [Abs.ren, AV.it.injEq, reduceCtorEq] at e
    subst e
    obtain ⟨b', h1, h2, h3⟩ := hL _ _ hLi
    cases b' <;> simp only [renB, Blk.iter.injEq, reduceCtorEq] at h2
    obtain ⟨rfl, rfl⟩ := h2
    exact .it _ s pos b h1 (by rw [h3]; exact hφi)
  | mp id es b hLi hφi =>
    intro a0 e
    cases a0 <;> simp only [Abs.ren, AV.mp.injEq, reduceCtorEq] at e
    subst e
    obtain ⟨b', h1, h2, h3⟩ := hL _ _ hLi
    cases b' <;> simp only [renB, Blk.map.injEq, reduceCtorEq] at h2
    subst h2
    exact .mp _ es b h1 (by rw [h3]; exact hφi)
  | yld id lc st pd sl b hLi hφi =>
    intro a0 e
    cases a0 <;> simp only [Abs.ren, AV.yld.injEq, reduceCtorEq] at e
    subst e
    obtain ⟨b', h1, h2, h3⟩ := hL _ _ hLi
    cases b' <;> simp only [renB, Blk.loop.injEq, reduceCtorEq] at h2
    obtain ⟨rfl, rfl, rfl, rfl⟩ := h2
    exact .yld _ lc st pd _ b h1 (by rw [h3]; exact hφi)
  | agg cs vs hl h1 h ih =>
    intro a0 e
    cases a0 <;> simp only [Abs.ren, renL_eq, AV.agg.injEq, reduceCtorEq] at e
    rename_i ds
    subst e
    exact .agg ds vs (by simpa using hl) h1 (fun i a v ha hv => ih i (Abs.ren σ a) v (by simp [ha]) hv a rfl)
  | tuple cs vs hl h ih =>
    intro a0 e
    cases a0 <;> simp only [Abs.ren, renL_eq, AV.tuple.injEq, reduceCtorEq] at e
    rename_i ds
    subst e
    exact .tuple ds vs (by simpa using hl) (fun i a v ha hv => ih i (Abs.ren σ a) v (by simp [ha]) hv a rfl)
  | clo f k cs vs hl h ih =>
    intro a0 e
    cases a0 <;> simp only [Abs.ren, renL_eq, AV.clo.injEq, reduceCtorEq] at e
    rename_i g j ds
    obtain ⟨rfl, rfl, rfl⟩ := e
    exact .clo f _ ds vs (by simpa using hl) (fun i a v ha hv => ih i (Abs.ren σ a) v (by simp [ha]) hv a rfl)
  | condT a v h ih =>
    intro a0 e
    cases a0 <;> simp only [Abs.ren, AV.cond.injEq, reduceCtorEq] at e
    obtain ⟨rfl, rfl⟩ := e
    exact .condT _ v (ih _ rfl)
theorem RE.unren {w ok L φ ok' L' φ' sz c vs} (σ : Nat → Nat) (k : ∀ a v, R w ok L φ (Abs.ren σ a) v → R w ok' L' φ' a v) (h : RE w ok L φ sz (c.map (Abs.ren σ)) vs) : RE w ok' L' φ' sz c vs := by
  refine ⟨by simpa using h.1, fun i x hx => ?_, fun i x j y hx hy => ?_⟩
  · have := h.2.1 i (Abs.ren σ x) (by simp [hx])
    rwa [ren_cells, List.length_map] at this
  · obtain ⟨v, h1, h2, h3⟩ := h.2.2 i (Abs.ren σ x) j (Abs.ren σ y) (by simp [hx]) (by rw [ren_cells]; simp [hy])
    exact ⟨v, h1, h2, k _ _ h3⟩
theorem ObjR.ren {w ok L φ w' ok' L' φ' b o} (σ : Nat → Nat) (k : ∀ a v, R w ok L φ a v → R w' ok' L' φ' (Abs.ren σ a) v) (h : ObjR w ok L φ b o) : ObjR w' ok' L' φ' (renB σ b) o := by
  cases h with
  | iter s pos => exact .iter s pos
  | loop lc st pd sl r h => exact .loop lc st pd _ r ⟨h.state, h.pending, h.params, h.assign, h.body, h.size, fun t => by rw [lkA_renS]; exact k _ _ (h.slots t)⟩
  | defer => exact .defer
  | map es ents clock h => exact .map es ents clock h
theorem ObjR.unren {w ok L φ w' ok' L' φ' b o} (σ : Nat → Nat) (k : ∀ a v, R w ok L φ (Abs.ren σ a) v → R w' ok' L' φ' a v) (h : ObjR w ok L φ (renB σ b) o) : ObjR w' ok' L' φ' b o := by
  generalize e : renB σ b = bb at h
  cases h with
  | iter s pos => cases b <;> simp only [renB, Blk.iter.injEq, reduceCtorEq] at e; obtain ⟨rfl, rfl⟩ := e; exact .iter _ _
  | loop lc st pd sl r h =>
    cases b <;> simp only [renB, Blk.loop.injEq, reduceCtorEq] at e
    obtain ⟨rfl, rfl, rfl, rfl⟩ := e
    exact .loop _ _ _ _ r ⟨h.state, h.pending, h.params, h.assign, h.body, h.size, fun t => k _ _ (by rw [← lkA_renS]; exact h.slots t)⟩
  | defer => cases b <;> simp only [renB, reduceCtorEq] at e; exact .defer
  | map es ents clock h => cases b <;> simp only [renB, Blk.map.injEq, reduceCtorEq] at e; subst e; exact .map _ ents clock h
structure Hands (L : Nat → Option Blk) (E : List Blk) (σ : Nat → Nat) (V : List Nat) (m : Nat) : Prop where
  fwd : ∀ i b, E[i]? = some b → L (σ i) = some (renB σ b) ∧ σ i ∉ V
  dead : ∀ i, E.length ≤ i → L (σ i) = none
  inj : ∀ i j, i < m → j < m → σ i = σ j → i = j
  le : E.length ≤ m
theorem Hands.back {L E σ V m} (h : Hands L E σ V m) : ∀ i b, L (σ i) = some b → ∃ b', lkE E i = some b' ∧ b = renB σ b' := by
  intro i b hb
  cases he : E[i]? with
  | none =>
    have := h.dead i (List.getElem?_eq_none_iff.1 he)
    rw [hb] at this; cases this
  | some b' =>
    have := (h.fwd i b' he).1
    rw [hb] at this; cases this
    exact ⟨b', he, rfl⟩
theorem BF_ren (σ : Nat → Nat) (d : AV) {e : TypeId} {n lo hi : Nat} : BF (Abs.ren σ d) e n lo hi ↔ BF d e n lo hi := by
  have h1 : notFz (Abs.ren σ d) = notFz d := by cases d <;> rfl
  have h2 : TyD (Abs.ren σ d) e ↔ TyD d e := by cases d <;> exact Iff.rfl
  unfold BF
  rw [h1, h2]
theorem HeapOK.callee {w ok L φ E σ V m} (h : HeapOK w ok L φ) (hs : Hands L E σ V m) :
    HeapOK w (fun b o => ok b o ∨ Seen L φ V b o) (lkE E) (fun i => φ (σ i)) := by
  have k : ∀ a v, R w ok L φ (Abs.ren σ a) v → R w (fun b o => ok b o ∨ Seen L φ V b o) (lkE E) (fun i => φ (σ i)) a v := fun a v hr =>
    R.unren σ (fun i b hb => let ⟨b', h1, h2⟩ := hs.back i b hb; ⟨b', h1, h2, rfl⟩) (fun _ _ h => .inl h) hr a rfl
  refine ⟨?_, ?_, ?_, ?_, ?_⟩
  · intro id sz ro d c hL
    have h1 := (hs.fwd id _ hL).1
    rcases h.blk (σ id) _ _ _ _ h1 with ⟨h2, h3⟩ | ⟨b, vs, rest, e, lo, hi, h2, h3, h4, h5⟩
    · exact .inl ⟨h2, by simpa using h3⟩
    · exact .inr ⟨b, vs, rest, e, lo, hi, h2, h3, (BF_ren σ d).1 h4, h5.unren σ k⟩
  · intro id bb hL hcc
    obtain ⟨b, o, h1, h2, h3⟩ := h.obj (σ id) _ (hs.fwd id _ hL).1 (by rw [renB_isC]; exact hcc)
    exact ⟨b, o, h1, h2, h3.unren σ k⟩
  · intro id hL
    exact h.dom _ (hs.dead id (List.getElem?_eq_none_iff.1 hL))
  · intro i j b hi hj
    have h1 := h.inj _ _ b hi hj
    have live : ∀ i, φ (σ i) = some b → i < E.length := fun i hi => by
      rcases Nat.lt_or_ge i E.length with h | hge
      · exact h
      · rw [h.dom _ (hs.dead i hge)] at hi; cases hi
    have l1 := live i hi
    have l2 := live j hj
    have := hs.le
    exact hs.inj i j (by omega) (by omega) h1
  · intro b o hb
    rcases hb with hb | ⟨id, hid, h1, h2⟩
    · obtain ⟨h3, h4⟩ := h.shut b o hb
      refine ⟨h3, fun i hi => ?_⟩
      obtain ⟨sz, d, c, h5, h6⟩ := h4 _ hi
      obtain ⟨b', h7, h8⟩ := hs.back _ _ h5
      cases b' <;> simp only [renB, Blk.cells.injEq, reduceCtorEq] at h8
      obtain ⟨rfl, rfl, rfl, rfl⟩ := h8
      exact ⟨_, _, _, h7, by simpa using h6⟩
    · refine ⟨h.lt h1, fun i hi => ?_⟩
      have e : σ i = id := h.inj _ _ b hi h1
      have hlt : i < E.length := by
        rcases Nat.lt_or_ge i E.length with h' | hge
        · exact h'
        · rw [h.dom _ (hs.dead i hge)] at hi; cases hi
      exact absurd (e ▸ hid) (hs.fwd i _ (List.getElem?_eq_getElem hlt)).2
def roB : Blk → Blk
  | .cells sz _ d c => .cells sz true d c
  | b => b
theorem roB_notC {b : Blk} (h : b.isC = false) : roB b = b := by cases b <;> simp_all [Blk.isC, roB]
theorem roB_isC (b : Blk) : (roB b).isC = b.isC := by cases b <;> rfl
def afterL (L : Nat → Option Blk) (σ : Nat → Nat) (V : List Nat) (E' : List Blk) : Nat → Option Blk := fun j =>
  match (List.range E'.length).find? fun i => σ i == j with
  | some i => (E'[i]?).map (renB σ)
  | none => if j ∈ V then (L j).map roB else L j
def afterP (φ : Nat → Option Nat) (σ : Nat → Nat) (n : Nat) (φ' : Nat → Option Nat) : Nat → Option Nat := fun j =>
  match (List.range n).find? fun i => σ i == j with
  | some i => φ' i
  | none => φ j
theorem find_some {σ : Nat → Nat} {n j i : Nat} (h : (List.range n).find? (fun i => σ i == j) = some i) : i < n ∧ σ i = j := by
  have h1 := List.mem_of_find?_eq_some h
  have h2 := List.find?_some h
  exact ⟨List.mem_range.1 h1, by simpa using h2⟩
theorem find_none {σ : Nat → Nat} {n j : Nat} (h : (List.range n).find? (fun i => σ i == j) = none) : ∀ i, i < n → σ i ≠ j := by
  intro i hi
  have := List.find?_eq_none.1 h i (List.mem_range.2 hi)
  simpa using this
theorem find_self {σ : Nat → Nat} {n i : Nat} (hinj : ∀ i j, i < n → j < n → σ i = σ j → i = j) (hi : i < n) : (List.range n).find? (fun k => σ k == σ i) = some i := by
  cases h : (List.range n).find? (fun k => σ k == σ i) with
  | none => exact absurd rfl (find_none h i hi)
  | some k =>
    obtain ⟨h1, h2⟩ := find_some h
    rw [hinj k i h1 hi h2]
theorem Ext.call {w0 X L ok φ w w' E E' σ V ok' φ' res v} (h : HeapOK w ok L φ) (hs : Hands L E σ V E'.length)
    (post : PostE w (fun b o => ok b o ∨ Seen L φ V b o) (lkE E) (fun i => φ (σ i)) w' ok' φ' (lkE E') res v) :
    Ext w0 X L ok φ w (afterL L σ V E') ok' (afterP φ σ E'.length φ') w' ∧ R w' ok' (afterL L σ V E') (afterP φ σ E'.length φ') (Abs.ren σ res) v := by
  -- the names of blocks that live behind the call
  have hlive : ∀ i b, lkE E' i = some b → i < E'.length := fun i b hb => (List.getElem?_eq_some_iff.1 hb).1
  have hLn : ∀ i b, lkE E' i = some b → afterL L σ V E' (σ i) = some (renB σ b) := fun i b hb => by
    have := hlive i b hb
    simp only [afterL, find_self hs.inj this]
    rw [show E'[i]? = some b from hb]; rfl
  have hφn : ∀ i b, lkE E' i = some b → afterP φ σ E'.length φ' (σ i) = φ' i := fun i b hb => by
    simp only [afterP, find_self hs.inj (hlive i b hb)]
  have kR : ∀ a u, R w' ok' (lkE E') φ' a u → R w' ok' (afterL L σ V E') (afterP φ σ E'.length φ') (Abs.ren σ a) u := fun a u hr =>
    R.ren σ hLn hφn (fun _ _ h => h) (fun _ _ _ => rfl) (fun _ _ _ _ _ _ h => h) hr
  -- the caller's own blocks that were not handed
  have hext : ∀ i b, φ (σ i) = some b → i < E.length := fun i b hb => by
    rcases Nat.lt_or_ge i E.length with h' | hge
    · exact h'
    · rw [h.dom _ (hs.dead i hge)] at hb; cases hb
  have hblock : ∀ j b, φ j = some b → (∀ i, i < E'.length → σ i ≠ j) → w'.heap[b]? = w.heap[b]? := fun j b hb hj =>
    post.frame.block b (h.lt hb) (fun ⟨i, hi⟩ => by
      have := hext i b hi
      have := hs.le
      exact hj i (by omega) (h.inj _ _ b hi hb))
  have hcapO : ∀ j b n, φ j = some b → (∀ i, i < E'.length → σ i ≠ j) → CapOK w b n → CapOK w' b n := fun j b n hb hj hc => capOK_of_heap (hblock j b hb hj) hc
  have keeps : Keeps w ok L φ w' ok' (afterL L σ V E') (afterP φ σ E'.length φ') := by
    refine ⟨fun b o hb => post.kept.okUp b o (.inl hb), fun b o hb => post.kept.cell b o (.inl hb), fun j sz ro d c hj => ?_, fun j bb hj hcc => ?_⟩
    · cases hf : (List.range E'.length).find? fun i => σ i == j with
      | some i =>
        obtain ⟨h1, rfl⟩ := find_some hf
        obtain ⟨b', h2, h3⟩ := hs.back i _ hj
        cases b' <;> simp only [renB, Blk.cells.injEq, reduceCtorEq] at h3
        obtain ⟨rfl, rfl, rfl, rfl⟩ := h3
        obtain ⟨ro', d', c', k1, k2, k3⟩ := post.kept.cells i _ _ _ _ h2
        refine ⟨ro', _, _, hLn i _ k1, by simpa using k2, fun e => ?_⟩
        obtain ⟨k4, k5⟩ := k3 (by simpa using e)
        exact ⟨by rw [hφn i _ k1]; exact k4, fun b n hb hc => k5 b n hb hc⟩
      | none =>
        have hno := find_none hf
        by_cases hV : j ∈ V
        · exact ⟨true, d, c, by simp [afterL, hf, hV, hj, roB], Nat.le_refl _, fun _ => ⟨by simp [afterP, hf], fun b n hb hc => hcapO j b n hb hno hc⟩⟩
        · exact ⟨ro, d, c, by simp [afterL, hf, hV, hj], Nat.le_refl _, fun _ => ⟨by simp [afterP, hf], fun b n hb hc => hcapO j b n hb hno hc⟩⟩
    · cases hf : (List.range E'.length).find? fun i => σ i == j with
      | some i =>
        obtain ⟨h1, rfl⟩ := find_some hf
        obtain ⟨b', h2, h3⟩ := hs.back i _ hj
        subst h3
        rw [renB_isC] at hcc
        obtain ⟨p', k1, k2, k3⟩ := post.kept.obj i _ h2 hcc
        exact ⟨renB σ p', hLn i _ k1, renB_same k2, by rw [hφn i _ k1]; exact k3⟩
      | none =>
        by_cases hV : j ∈ V
        · exact ⟨bb, by simp [afterL, hf, hV, hj, roB_notC hcc], Blk.same_refl hcc, by simp [afterP, hf]⟩
        · exact ⟨bb, by simp [afterL, hf, hV, hj], Blk.same_refl hcc, by simp [afterP, hf]⟩
  have kO : ∀ a u, R w ok L φ a u → R w' ok' (afterL L σ V E') (afterP φ σ E'.length φ') a u := fun a u hr => hr.keep keeps
  refine ⟨⟨keeps, ⟨?_, ?_, ?_, ?_, ?_⟩, ?_, ?_, ?_, fun b hb => ?_⟩, kR _ _ post.val⟩
  rotate_left 8
  · have hlt : b < w.heap.size := (Array.getElem?_eq_some_iff.1 hb.at_).1
    refine ⟨(post.frame.block b hlt (fun ⟨i, hi⟩ => hb.name _ hi)).trans hb.at_, fun i hi => ?_, fun o ho => ?_⟩
    · simp only [afterP] at hi
      split at hi
      · rename_i j _
        rcases post.own _ _ hi with ⟨k, hk⟩ | h1
        · exact hb.name _ hk
        · omega
      · exact hb.name _ hi
    · rcases post.okDn _ _ ho with (h1 | h1) | h1 | ⟨k, hk⟩
      · exact hb.shut o h1
      · obtain ⟨id, _, h2, _⟩ := h1
        exact hb.name _ h2
      · omega
      · exact hb.name _ hk
  · intro j sz ro d c hj
    cases hf : (List.range E'.length).find? fun i => σ i == j with
    | some i =>
      obtain ⟨h1, rfl⟩ := find_some hf
      have hEi : lkE E' i = some E'[i] := List.getElem?_eq_getElem h1
      rw [hLn i _ hEi] at hj
      cases hb : E'[i] with
      | iter s pos => rw [hb] at hj; simp [renB] at hj
      | loop lc st pd sl => rw [hb] at hj; simp [renB] at hj
      | defer => rw [hb] at hj; simp [renB] at hj
      | map es => rw [hb] at hj; simp [renB] at hj
      | cells sz1 ro1 d1 c1 =>
        rw [hb] at hj hEi
        simp only [renB, Option.some.injEq, Blk.cells.injEq] at hj
        obtain ⟨rfl, rfl, rfl, rfl⟩ := hj
        rw [hφn i _ hEi]
        rcases post.heap.blk i _ _ _ _ hEi with ⟨h2, h3⟩ | ⟨b, vs, rest, e, lo, hi, h2, h3, h4, h5⟩
        · exact .inl ⟨h2, by simp [h3]⟩
        · exact .inr ⟨b, vs, rest, e, lo, hi, h2, h3, (BF_ren σ d1).2 h4, h5.ren σ kR⟩
    | none =>
      have hno := find_none hf
      have hP : afterP φ σ E'.length φ' j = φ j := by simp [afterP, hf]
      rw [hP]
      have hold : ∃ ro0, L j = some (.cells sz ro0 d c) := by
        simp only [afterL, hf] at hj
        split at hj
        · simp only [Option.map_eq_some_iff] at hj
          obtain ⟨b, hb, hb2⟩ := hj
          cases b with
          | cells sz1 ro1 d1 c1 => simp only [roB, Blk.cells.injEq] at hb2; obtain ⟨rfl, _, rfl, rfl⟩ := hb2; exact ⟨ro1, hb⟩
          | iter s pos => simp [roB] at hb2
          | loop lc st pd sl => simp [roB] at hb2
          | defer => simp [roB] at hb2
          | map es => simp [roB] at hb2
        · exact ⟨ro, hj⟩
      obtain ⟨ro0, hL⟩ := hold
      rcases h.blk j _ _ _ _ hL with h2 | ⟨b, vs, rest, e, lo, hi, h2, h3, h4, h5⟩
      · exact .inl h2
      · exact .inr ⟨b, vs, rest, e, lo, hi, h2, by rw [hblock j b h2 hno]; exact h3, h4, h5.keep kO⟩
  · intro j bb hj hcc
    cases hf : (List.range E'.length).find? fun i => σ i == j with
    | some i =>
      obtain ⟨h1, rfl⟩ := find_some hf
      have hEi : lkE E' i = some E'[i] := List.getElem?_eq_getElem h1
      rw [hLn i _ hEi] at hj
      cases hj
      rw [renB_isC] at hcc
      rw [hφn i _ hEi]
      obtain ⟨b, o, k1, k2, k3⟩ := post.heap.obj i _ hEi hcc
      exact ⟨b, o, k1, k2, k3.ren σ kR⟩
    | none =>
      have hno := find_none hf
      have hP : afterP φ σ E'.length φ' j = φ j := by simp [afterP, hf]
      rw [hP]
      have hold : L j = some bb := by
        simp only [afterL, hf] at hj
        split at hj
        · simp only [Option.map_eq_some_iff] at hj
          obtain ⟨b, hb, hb2⟩ := hj
          rw [roB_notC (by rw [← roB_isC, hb2]; exact hcc)] at hb2
          rw [hb2] at hb; exact hb
        · exact hj
      obtain ⟨b, o, h2, h3, h4⟩ := h.obj j _ hold hcc
      exact ⟨b, o, h2, by rw [hblock j b h2 hno]; exact h3, h4.keep kO⟩
  · intro j hj
    cases hf : (List.range E'.length).find? fun i => σ i == j with
    | some i =>
      obtain ⟨h1, rfl⟩ := find_some hf
      rw [hLn i _ (List.getElem?_eq_getElem h1)] at hj
      cases hj
    | none =>
      simp only [afterP, hf]
      refine h.dom j ?_
      simp only [afterL, hf] at hj
      split at hj
      · simpa using hj
      · exact hj
  · intro i j b hi hj
    cases hx : (List.range E'.length).find? (fun k => σ k == i) with
    | some x =>
      obtain ⟨h1, rfl⟩ := find_some hx
      simp only [afterP, hx] at hi
      cases hy : (List.range E'.length).find? (fun k => σ k == j) with
      | some y =>
        obtain ⟨h2, rfl⟩ := find_some hy
        simp only [afterP, hy] at hj
        rw [post.heap.inj _ _ b hi hj]
      | none =>
        simp only [afterP, hy] at hj
        rcases post.own _ _ hi with ⟨k, hk⟩ | hge
        · have e := h.inj _ _ b hk hj
          have h2 := hext k b hk
          have := hs.le
          exact absurd e (find_none hy k (by omega))
        · exact absurd (h.lt hj) (by omega)
    | none =>
      simp only [afterP, hx] at hi
      cases hy : (List.range E'.length).find? (fun k => σ k == j) with
      | some y =>
        obtain ⟨h2, rfl⟩ := find_some hy
        simp only [afterP, hy] at hj
        rcases post.own _ _ hj with ⟨k, hk⟩ | hge
        · have e := h.inj _ _ b hk hi
          have h2 := hext k b hk
          have := hs.le
          exact absurd e (find_none hx k (by omega))
        · exact absurd (h.lt hi) (by omega)
      | none =>
        simp only [afterP, hy] at hj
        exact h.inj i j b hi hj
  · intro b o hb
    obtain ⟨h1, h2⟩ := post.heap.shut b o hb
    refine ⟨h1, fun j hj => ?_⟩
    simp only [afterP] at hj
    split at hj
    · rename_i i hi
      obtain ⟨h3, rfl⟩ := find_some hi
      obtain ⟨sz, d, c, h4, h5⟩ := h2 i hj
      exact ⟨_, _, _, hLn i _ h4, by simpa using h5⟩
    · rename_i hf
      have hno := find_none hf
      rcases post.okDn b o hb with (hb1 | ⟨id, hid, hb2, sz, ro, d, c, hb3, hb4⟩) | hge | ⟨k, hk⟩
      · obtain ⟨sz, d, c, h4, h5⟩ := (h.shut b o hb1).2 j hj
        by_cases hV : j ∈ V
        · exact ⟨sz, d, c, by simp [afterL, hf, hV, h4, roB], h5⟩
        · exact ⟨sz, d, c, by simp [afterL, hf, hV, h4], h5⟩
      · have e : id = j := h.inj _ _ b hb2 hj
        subst e
        exact ⟨sz, d, c, by simp [afterL, hf, hid, hb3, roB], hb4⟩
      · exact absurd (h.lt hj) (by omega)
      · have e := h.inj _ _ b hk hj
        have h2 := hext k b hk
        have := hs.le
        exact absurd e (hno k (by omega))
  · intro ho hf
    exact hf.trans post.frame (fun x ⟨i, hi⟩ => ho _ _ hi)
  · intro ho hsz j b hj
    simp only [afterP] at hj
    split at hj
    · rcases post.own _ _ hj with ⟨k, hk⟩ | hge
      · exact ho _ _ hk
      · exact .inr (by omega)
    · exact ho j b hj
  · intro ho hsz b o hb
    rcases post.okDn b o hb with (hb1 | ⟨id, hid, hb2, _⟩) | hge | ⟨k, hk⟩
    · exact .inl hb1
    · rcases ho _ _ hb2 with h1 | h1
      · exact .inr (.inr h1)
      · exact .inr (.inl h1)
    · exact .inr (.inl (by omega))
    · rcases ho _ _ hk with h1 | h1
      · exact .inr (.inr h1)
      · exact .inr (.inl h1)
theorem Ext.quiet {w0 X L ok φ w w'} (h : HeapOK w ok L φ) (hf : Fr (fun _ => False) w w') : Ext w0 X L ok φ w L ok φ w' := by
  have hb : ∀ b, b < w.heap.size → w'.heap[b]? = w.heap[b]? := fun b hb => hf.block b hb (fun h => h)
  have keeps : Keeps w ok L φ w' ok L φ := by
    refine ⟨fun _ _ h => h, fun b o hbo => World.cell?_of_block (a := ⟨b, o, none⟩) (hb b (h.shut b o hbo).1), fun id sz ro d c hL => ⟨ro, d, c, hL, Nat.le_refl _, fun _ => ⟨rfl, fun b n _ hc => ?_⟩⟩, fun id bb hL hcc => ⟨bb, hL, Blk.same_refl hcc, rfl⟩⟩
    exact capOK_of_heap (hb b (capOK_lt hc)) hc
  have hk := fun a v hr => R.keep (a := a) (v := v) keeps hr
  refine ⟨keeps, ⟨?_, ?_, h.dom, h.inj, fun b o hbo => ⟨Nat.lt_of_lt_of_le (h.shut b o hbo).1 hf.size, (h.shut b o hbo).2⟩⟩, fun _ hfr => hfr.trans hf (fun _ h => h.elim), fun ho _ => ho, fun _ _ _ _ h => .inl h, fun b ho => ⟨(hb b (Array.getElem?_eq_some_iff.1 ho.at_).1).trans ho.at_, ho.name, ho.shut⟩⟩
  · intro id sz ro d c hL
    rcases h.blk id sz ro d c hL with h1 | ⟨b, vs, rest, e, lo, hi, h1, h2, h3, h4⟩
    · exact .inl h1
    · exact .inr ⟨b, vs, rest, e, lo, hi, h1, by rw [hb b (h.lt h1)]; exact h2, h3, h4.keep hk⟩
  · intro id bb hL hcc
    obtain ⟨b, o, h1, h2, h3⟩ := h.obj id bb hL hcc
    exact ⟨b, o, h1, by rw [hb b (h.lt h1)]; exact h2, h3.keep hk⟩
end Go.Abs
end
section
set_option linter.unusedVariables false
set_option linter.unusedSimpArgs false
namespace Go.Abs
abbrev Tbl := FuncId → List Blk → List AV → Option (List Blk × AV × Prop)
def TblOK (P : Program) (C : Tbl) : Prop := ∀ f E args E' res p, C f E args = some (E', res, p) → p → SpecE P f E args E' res
def opnds : Op → List Operand
  | .move x | .assign x | .box _ x | .load _ x | .nilCheck x | .unOp _ _ x | .convert _ _ x | .fieldAddr _ x _ | .field _ x _ | .range _ x | .next x _ | .extract x _ => [x]
  | .store _ x y | .binOp _ _ x y _ | .makeSlice _ x y | .indexAddr _ x y | .index _ x y => [x, y]
  | .makeInterface _ x | .typeAssert x _ _ _ => [x]
  | .lookup _ x k _ => [x, k]
  | .mapUpdate _ x k v => [x, k, v]
  | .build _ ps | .buildSlice _ _ ps => ps.toList.map (·.2)
  | .slice _ x lo hi mx => [x] ++ lo.toList ++ hi.toList ++ mx.toList
  | .makeFunc _ fs cs => fs.toList ++ cs.toList
  | .call c => (match c.callee with | .value f => [f] | _ => []) ++ c.args.toList
  | _ => []
def ucL (ρ : Operand → AV) : List Operand → Prop
  | [] => True
  | x :: r => (ρ x).uc ∧ ucL ρ r
theorem ucL_mem {ρ : Operand → AV} {l : List Operand} (h : ucL ρ l) : ∀ x ∈ l, (ρ x).uc := by
  induction l with
  | nil => intro x hx; simp at hx
  | cons a l ih =>
    intro x hx
    rcases List.mem_cons.1 hx with rfl | hx
    · exact h.1
    · exact ih h.2 x hx
def unO (ρ : Operand → AV) : Option Operand → Option AV
  | none => none
  | some x => some (ρ x).un
def evPick (c a b : AV) : Option (AV × Prop) :=
  match c.un with
  | .bool t => match a.un, b.un with
    | .bool x, .bool y => some (.bool (bif t then x else y), c.uc ∧ gimp t a.uc ∧ gimp (!t) b.uc)
    | .bool x, _ => some (.bool x, c.uc ∧ isT t ∧ a.uc)
    | _, .bool y => some (.bool y, c.uc ∧ isT (!t) ∧ b.uc)
    | _, _ => none
  | _ => none
def evNilCheck (x : AV) : Option (AV × Prop) :=
  match x with
  | .radr cs => some (.radr cs, True)
  | .ptr id i j hw => some (.ptr id i j hw, True)
  | .it id => some (.it id, True)
  | .yld id => some (.yld id, True)
  | .clo f k cs => some (.clo f k cs, True)
  | _ => none
def evBuiltin (P : Program) (b : Builtin) (ts : List TypeId) (xs : List AV) : Option (AV × Prop) :=
  match b with
  | .len => match ts, xs with
    | [t], [x] => evLen P t x
    | _, _ => none
  | .max => match xs with
    | [x, y] => evMax x y
    | _ => none
  | .min => match xs with
    | [x, y] => evMin x y
    | _ => none
  | _ => none
def evMkI (P : Program) (t : TypeId) (x : AV) : Option (AV × Prop) :=
  match P.underlying t with
  | some (.interface _) => none
  | some _ => some (.iface t x, x.pureB = true)
  | none => none
def evZero2 (P : Program) (t : TypeId) : Option (AV × Prop) :=
  match zT P t with
  | some z => some (.tuple [z, .bool false], z.cells.all AV.flat = true)
  | none => none
def evIs (P : Program) (t u : TypeId) (v : AV) : Option (AV × Prop) := if u = t then some (.tuple [v, .bool true], True) else evZero2 P t
def evTA (P : Program) (t : TypeId) (x : AV) : Option (AV × Prop) :=
  match P.underlying t with
  | some (.interface _) => none
  | some _ => match x with
    | .iface u v => evIs P t u v
    | .nili => evZero2 P t
    | _ => none
  | none => none
theorem evMkI_ok {P t x v' p w ok L φ vx} (h : evMkI P t x = some (v', p)) (hp : p) (hx : R w ok L φ x vx) : ∃ v, (Instr.makeInterface t vx).run P w = .ok v w ∧ R w ok L φ v' v := by
  unfold evMkI at h
  split at h <;> simp only [Option.some.injEq, reduceCtorEq, Prod.mk.injEq] at h
  rename_i d hn hu
  obtain ⟨rfl, rfl⟩ := h
  refine ⟨.iface t vx, ?_, .pure _ _ (.iface t x vx (hx.toRp hp))⟩
  cases d <;> first | exact absurd rfl (hn _) | simp [Instr.makeInterface, run_underlying hu]
theorem evZero2_ok {P t v' p} (w : World) (ok : Nat → Nat → Prop) (L : Nat → Option Blk) (φ : Nat → Option Nat) (h : evZero2 P t = some (v', p)) (hp : p) :
    ∃ v, (do pure (.tuple #[← Go.zeroValue t, .bool false]) : Sem Value).run P w = .ok v w ∧ R w ok L φ v' v := by
  unfold evZero2 at h
  split at h <;> simp only [Option.some.injEq, reduceCtorEq, Prod.mk.injEq] at h
  rename_i z hz
  obtain ⟨rfl, rfl⟩ := h
  obtain ⟨i, u, hi, hzu, _, hr, _⟩ := zero_ok w ok L φ hz hp
  refine ⟨.tuple #[u, .bool false], by simp [zeroValue, typeInfo, hi, hzu], ?_⟩
  refine .tuple [z, .bool false] [u, .bool false] rfl (fun i a v ha hv => ?_)
  match i with
  | 0 => simp at ha hv; subst ha; subst hv; exact hr
  | 1 => simp at ha hv; subst ha; subst hv; exact .pure _ _ (.bool _)
  | _ + 2 => simp at ha
theorem evTA_ok {P t xT x v' p w ok L φ vx} (h : evTA P t x = some (v', p)) (hp : p) (hx : R w ok L φ x vx) : ∃ v, (Instr.typeAssert vx xT t true).run P w = .ok v w ∧ R w ok L φ v' v := by
  unfold evTA at h
  split at h <;> try (simp at h; done)
  rename_i d hn hu
  have keyS : ∀ (u : TypeId) (v : Value), (Instr.typeAssert (.iface u v) xT t true).run P w = (if u = t then pure (.tuple #[v, .bool true]) else (do pure (.tuple #[← Go.zeroValue t, .bool false])) : Sem Value).run P w := fun u v => by
    by_cases e : u = t
    · rw [if_pos e]; cases d <;> first | exact absurd rfl (hn _) | simp [Instr.typeAssert, run_underlying hu, e]
    · rw [if_neg e]; cases d <;> first | exact absurd rfl (hn _) | simp [Instr.typeAssert, run_underlying hu, e]
  have keyN : (Instr.typeAssert .nilIface xT t true).run P w = (do pure (.tuple #[← Go.zeroValue t, .bool false]) : Sem Value).run P w := by
    cases d <;> first | exact absurd rfl (hn _) | simp [Instr.typeAssert, run_underlying hu]
  split at h
  · rename_i u v
    obtain ⟨vv, rfl, hv⟩ : ∃ vv, vx = .iface u vv ∧ Rp w ok v vv := by cases hx with | pure _ _ h => cases h with | iface _ _ vv h => exact ⟨vv, rfl, h⟩
    rw [keyS]
    unfold evIs at h
    split at h
    · rename_i e
      rw [if_pos e]
      simp only [Option.some.injEq, Prod.mk.injEq] at h
      obtain ⟨rfl, rfl⟩ := h
      refine ⟨.tuple #[vv, .bool true], by simp, .tuple [v, .bool true] [vv, .bool true] rfl (fun i a b ha hb => ?_)⟩
      match i with
      | 0 => simp at ha hb; subst ha; subst hb; exact .pure _ _ hv
      | 1 => simp at ha hb; subst ha; subst hb; exact .pure _ _ (.bool _)
      | _ + 2 => simp at ha
    · rename_i e
      rw [if_neg e]
      exact evZero2_ok w ok L φ h hp
  · obtain rfl : vx = .nilIface := by cases hx with | pure _ _ h => cases h; rfl
    rw [keyN]
    exact evZero2_ok w ok L φ h hp
  · simp at h
def evPure (P : Program) (wr : Bool) (ρ : Operand → AV) : Op → Option (AV × Prop)
  | .move x => some ((ρ x).un, True)
  | .assign x => some ((ρ x).un, True)
  | .pick c a b => evPick (ρ c) (ρ a) (ρ b)
  | .binOp op t x y _ => evBinX P wr op t (ρ x).un (ρ y).un
  | .unOp op _ x => evUn wr op (ρ x).un
  | .convert s d x => evConv P wr s d (ρ x).un
  | .index t x i => evIndex P t (ρ x).un (ρ i).un
  | .field t x f => evField P t (ρ x).un f
  | .fieldAddr t x f => evFieldAddr P t (ρ x).un f
  | .indexAddr t x i => evIndexAddr P t (ρ x).un (ρ i).un
  | .slice t x lo hi mx => evSlice P t (ρ x).un (unO ρ lo) (unO ρ hi) (unO ρ mx)
  | .extract x i => evExtract (ρ x).un i
  | .build t ps => evBuild P t (ps.toList.map fun p => (p.1, (ρ p.2).un))
  | .makeFunc (.func f) fst cs => some (.clo f fst.size ((fst.toList ++ cs.toList).map fun x => (ρ x).un), True)
  | .nilCheck x => evNilCheck (ρ x).un
  | .makeInterface t x => evMkI P t (ρ x).un
  | .typeAssert x _ t true => evTA P t (ρ x).un
  | .call { callee := .builtin b, args, argTypes } => evBuiltin P b argTypes.toList (args.toList.map fun x => (ρ x).un)
  | _ => none
def evRead (P : Program) (L : Nat → Option Blk) (ρ : Operand → AV) : Op → Option (AV × Prop)
  | .load t x => rdLoad P L t (ρ x).un
  | .lookup t x k false => rdLookup P L t (ρ x).un (ρ k).un
  | .indexAddr t x i => rdIndexAddr P L t (ρ x).un (ρ i).un
  | .slice t x lo hi mx => rdSlice P L t (ρ x).un (unO ρ lo) (unO ρ hi) (unO ρ mx)
  | .convert s d x => rdCv P L s d (ρ x).un
  | .binOp op t x y _ => rdPeq P L op t (ρ x).un (ρ y).un
  | .call { callee := .builtin .len, args, argTypes } => match argTypes.toList, args.toList with
    | [t], [x] => rdLen P L t (ρ x).un
    | _, _ => none
  | .call { callee := .builtin .unsafeSliceData, args, .. } => match args.toList with
    | [x] => rdUSD L (ρ x).un
    | _ => none
  | _ => none
def idOf (dst : Option Nat) : Nat := match dst with | some t => 16 * (t + 1) | none => 0
def evEff (P : Program) (L : Nat → Option Blk) (id : Nat) (ρ : Operand → AV) : Op → Option (AV × Nat × Blk × Prop)
  | .alloc t => match zT P t with
    | some z => match efBoxed P L id t z with
      | some (v, i, b, p) => some (v, i, b, p ∧ z.cells.all AV.flat = true)
      | none => none
    | none => none
  | .box t x => efBoxed P L id t (ρ x).un
  | .makeMap t none => efMakeMap P L id t
  | .mapUpdate t x k v => efMapPut P L t (ρ x).un (ρ k).un (ρ v).un
  | .buildSlice t n ps => efBuildSlice P L id t n (ps.toList.map fun p => (p.1, (ρ p.2).un))
  | .makeSlice t l c => efMake P L id t (ρ l).un (ρ c).un
  | .store t x y => efStore P L t (ρ x).un (ρ y).un
  | .convert s d x => efBytes P L id s d (ρ x).un
  | .range t x => efRange P L id t (ρ x).un
  | .next x true => efNext L (ρ x).un
  | .call { callee := .builtin .append, args, argTypes } => match argTypes.toList, args.toList with
    | [t, u], [x, y] => efAppend P L id t u (ρ x).un (ρ y).un
    | _, _ => none
  | .call { callee := .builtin .copy, args, argTypes } => match argTypes.toList, args.toList with
    | [t, u], [x, y] => efCopy P L t (ρ x).un (ρ y).un
    | _, _ => none
  | .call { callee := .builtin .clear, args, argTypes } => match argTypes.toList, args.toList with
    | [t], [x] => efClear P L t (ρ x).un
    | _, _ => none
  | .call { callee := .builtin .unsafeString, args, argTypes } => match argTypes.toList, args.toList with
    | [t, u], [x, y] => efUStr P L t (ρ x).un (ρ y).un
    | _, _ => none
  | _ => none
def scal : AV → Bool
  | .any | .bool _ | .int .. | .str _ | .nils | .nilp | .nili | .nilf | .nxt .. => true
  | .agg cs => cs.all fun | .any | .bool _ | .int .. | .str _ | .nils | .nilp | .nili | .nilf => true | _ => false
  | .tuple cs => cs.all fun
    | .any | .bool _ | .int .. | .str _ | .nils | .nilp | .nili | .nilf => true
    | .agg cs => cs.all fun | .any | .bool _ | .int .. | .str _ | .nils | .nilp | .nili | .nilf => true | _ => false
    | _ => false
  | _ => false
def deadId : Nat := 999999
def freshIds (L : Nat → Option Blk) (nb : Nat) : List Blk → Nat → Prop
  | [], _ => L deadId = none
  | _ :: r, i => L (nb + i) = none ∧ freshIds L nb r (i + 1)
def sig (nb k i : Nat) : Nat := if i < k then nb + i else deadId
def newBlks (σ : Nat → Nat) : List Blk → Nat → List (Nat × Blk)
  | [], _ => []
  | b :: r, i => (σ i, renB σ b) :: newBlks σ r (i + 1)
def marks (L : Nat → Option Blk) : List Nat → List (Nat × Blk)
  | [] => []
  | i :: r => match L i with
    | some b => (i, roB b) :: marks L r
    | none => marks L r
class Hold.{u} (α : Type u) where
  v : α
abbrev CallR := Option (AV × List (Nat × Blk) × Prop)
def deadOK (L : Nat → Option Blk) : AV → Prop
  | .list .. => True
  | _ => L deadId = none
def call1c (L : Nat → Option Blk) (id : Nat) (V : List Nat) (q p : Prop) (res : AV) : Bool → CallR
  | true => some (res, [], q ∧ p)
  | false => some (ren (sig id 0) res, marks L V, q ∧ p ∧ deadOK L res)
def call1b (L : Nat → Option Blk) (id : Nat) (V : List Nat) (q : Prop) : Option (List Blk × AV × Prop) → CallR
  | some ([], res, p) => call1c L id V q p res (scal res)
  | some (b :: E', res, p) => some (ren (sig id (b :: E').length) res, newBlks (sig id (b :: E').length) (b :: E') 0 ++ marks L V, q ∧ p ∧ freshIds L id (b :: E') 0)
  | none => none
def call1a (C : Tbl) (L : Nat → Option Blk) (id : Nat) (f : FuncId) : Option (List AV × List Nat × Prop) → CallR
  | some (ys, V, q) => call1b L id V q (C f [] ys)
  | none => none
def evCall1 (C : Tbl) (L : Nat → Option Blk) (id : Nat) (f : FuncId) (xs : List AV) : CallR := call1a C L id f (purL L xs)
mutual
def pids : AV → List Nat
  | .ptr id _ _ _ => [id]
  | .it id => [id]
  | .mp id => [id]
  | .yld id => [id]
  | .ref id _ _ _ => [id]
  | .agg cs => pidsL cs
  | .tuple cs => pidsL cs
  | .clo _ _ cs => pidsL cs
  | .cond _ v => pids v
  | _ => []
def pidsL : List AV → List Nat
  | [] => []
  | a :: r => pids a ++ pidsL r
end
mutual
def mids : AV → List Nat
  | .ptr id _ _ _ => [id]
  | .it id => [id]
  | .mp id => [id]
  | .yld id => [id]
  | .agg cs => midsL cs
  | .tuple cs => midsL cs
  | .clo _ _ cs => midsL cs
  | .cond _ v => mids v
  | _ => []
def midsL : List AV → List Nat
  | [] => []
  | a :: r => mids a ++ midsL r
end
def hasId (l : List Nat) (i : Nat) : Bool := match l with | [] => false | j :: r => if i = j then true else hasId r i
def allIds (l : List Nat) : List Nat → Bool | [] => true | i :: r => if hasId l i = true then allIds l r else false
def pidsS : List (Nat × AV) → List Nat
  | [] => []
  | (_, a) :: r => pids a ++ pidsS r
def blkIds : Option Blk → List Nat
  | some (.cells _ _ _ c) => pidsL c
  | some (.iter ..) => []
  | some (.loop _ _ _ sl) => pidsS sl
  | some .defer => []
  | some (.map _) => []
  | none => []
def reachI : Bool → List Nat → List Nat → List Nat
  | true, a, _ => a
  | false, _, b => b
def reach (L : Nat → Option Blk) : Nat → List Nat → List Nat → List Nat
  | 0, _, acc => acc
  | _ + 1, [], acc => acc
  | n + 1, i :: r, acc => reachI (hasId acc i) (reach L n r acc) (reach L n (r ++ blkIds (L i)) (acc ++ [i]))
def idxOf (i : Nat) : List Nat → Nat
  | [] => deadId
  | j :: r => if i = j then 0 else idxOf i r + 1
def sigH (ids : List Nat) (nb k i : Nat) : Nat := if i < ids.length then ids.getD i deadId else if i < k then nb + (i - ids.length) else deadId
def handE1 (ids : List Nat) : Option Blk → List Blk → List Blk
  | some b, r => renB (fun j => idxOf j ids) b :: r
  | none, _ => []
def handE (L : Nat → Option Blk) (ids : List Nat) : List Nat → List Blk
  | [] => []
  | i :: r => handE1 ids (L i) (handE L ids r)
def hpArg (L : Nat → Option Blk) (ids : List Nat) (a : AV) : Bool → Option (AV × List Nat × Prop)
  | true => some (ren (fun j => idxOf j ids) a, [], True)
  | false => purA L a
def hpJoin : Option (AV × List Nat × Prop) → Option (List AV × List Nat × Prop) → Option (List AV × List Nat × Prop)
  | some (a', i, q), some (r', V, s) => some (a' :: r', i ++ V, q ∧ s)
  | none, _ => none
  | some _, none => none
def hpL (L : Nat → Option Blk) (ids : List Nat) : List AV → Option (List AV × List Nat × Prop)
  | [] => some ([], [], True)
  | a :: r => hpJoin (hpArg L ids a (allIds ids (pids a))) (hpL L ids r)
def kept1 (σ : Nat → Nat) (ids : List Nat) (a : AV) : Bool → Prop
  | true => ren σ (ren (fun j => idxOf j ids) a) = a
  | false => True
def keptOK (σ : Nat → Nat) (ids : List Nat) : List AV → Prop
  | [] => True
  | a :: r => kept1 σ ids a (allIds ids (pids a)) ∧ keptOK σ ids r
def sameBlks (L : Nat → Option Blk) (σ : Nat → Nat) : List Blk → List Nat → Prop
  | [], [] => True
  | b :: r, i :: s => L i = some (renB σ b) ∧ sameBlks L σ r s
  | _, _ => False
def apartIds : List Nat → List Nat → Bool
  | [], _ => true
  | i :: r, ids => if hasId ids i = true then false else apartIds r ids
def noDup : List Nat → Bool
  | [] => true
  | i :: r => if hasId r i = true then false else noDup r
def callHb (L : Nat → Option Blk) (nb : Nat) (xs : List AV) (ids : List Nat) (V : List Nat) (q : Prop) (E : List Blk) : Option (List Blk × AV × Prop) → CallR
  | some (E', res, p) => some (ren (sigH ids nb E'.length) res, newBlks (sigH ids nb E'.length) E' 0 ++ marks L V,
      q ∧ p ∧ keptOK (sigH ids nb E'.length) ids xs ∧ sameBlks L (sigH ids nb E'.length) E ids ∧ noDup ids = true ∧ apartIds V ids = true ∧ ids.length ≤ E'.length ∧ freshIds L nb (E'.drop ids.length) 0)
  | none => none
def callHa (C : Tbl) (L : Nat → Option Blk) (nb : Nat) (f : FuncId) (xs : List AV) (ids : List Nat) (E : List Blk) : Option (List AV × List Nat × Prop) → CallR
  | some (ys, V, q) => callHb L nb xs ids V q E (C f E ys)
  | none => none
def callHi (C : Tbl) (L : Nat → Option Blk) (nb : Nat) (f : FuncId) (xs : List AV) (ids : List Nat) : CallR := callHa C L nb f xs ids (handE L ids ids) (hpL L ids xs)
def evCallH (C : Tbl) (L : Nat → Option Blk) (nb : Nat) (f : FuncId) (xs : List AV) (todo : List Nat) : CallR := callHi C L nb f xs (reach L 16 todo [])
def orH (a : CallR) [b : Hold CallR] : CallR := match a with | some r => some r | none => b.v
theorem orH_some {r b} : @orH (some r) b = some r := rfl
theorem orH_none {b} : @orH none ⟨b⟩ = b := rfl
def evCallP (C : Tbl) (L : Nat → Option Blk) (id : Nat) (f : FuncId) (xs : List AV) : CallR :=
  @orH (evCall1 C L id f xs) ⟨@orH (evCallH C L id f xs (midsL xs)) ⟨evCallH C L id f xs (pidsL xs)⟩⟩
def evCall (C : Tbl) (L : Nat → Option Blk) (id : Nat) (ρ : Operand → AV) : Op → Option (AV × List (Nat × Blk) × Prop)
  | .call { callee := .value g, args, .. } => match (ρ g).un with
    | .clo f k cs => if f = yldF then none else evCallP C L id f (cs.take k ++ (args.toList.map (fun x => (ρ x).un) ++ cs.drop k))
    | .yld id' => evCallP C L id yldF (.yld id' :: args.toList.map (fun x => (ρ x).un))
    | _ => none
  | _ => none
def evStep (P : Program) (C : Tbl) (wr : Bool) (L : Nat → Option Blk) (dst : Option Nat) (ρ : Operand → AV) (op : Op) : Option (AV × List (Nat × Blk) × Prop) :=
  match evPure P wr ρ op with
  | some (v, p) => some (v, [], p)
  | none => match evRead P L ρ op with
    | some (v, p) => some (v, [], p)
    | none => match evEff P L (idOf dst) ρ op with
      | some (v, i, b, p) => some (v, [(i, b)], p)
      | none => evCall C L (idOf dst) ρ op
section
variable {P : Program} {w : World} {ok : Nat → Nat → Prop} {L : Nat → Option Blk} {φ : Nat → Option Nat} {ρ : Operand → AV} {rv : Operand → Value} {o : Oper} {v' : AV} {p : Prop}
theorem R.boolInv {b v} (h : R w ok L φ (.bool b) v) : v = .bool b := by cases h with | pure _ _ h => cases h; rfl
theorem R.ownInv {sz l v} (h : R w ok L φ (.own sz l) v) : ∃ b, v = .bool b ∧ (b = true → l = []) := by cases h with | pure _ _ h => cases h; exact ⟨_, rfl, ‹_›⟩
theorem R.intInv {k n v} (h : R w ok L φ (.int k n) v) : v = .int k n := by cases h with | pure _ _ h => cases h; rfl
theorem R.strInv {s v} (h : R w ok L φ (.str s) v) : v = .string ⟨s.toArray⟩ := by cases h with | pure _ _ h => cases h; rfl
theorem R.radrInv {cs v} (h : R w ok L φ (.radr cs) v) : ∃ b o, v = .pointer (some ⟨b, o, none⟩) := by cases h with | pure _ _ h => cases h; exact ⟨_, _, rfl⟩
theorem boundsR {lo : Option Operand} (hR : ∀ x, R w ok L φ (ρ x) (rv x)) (hu : ∀ x ∈ lo.toList, (ρ x).uc) :
    (∀ k n, unO ρ lo = some (.int k n) → lo.map rv = some (.int k n)) ∧ (unO ρ lo = none → lo.map rv = none) := by
  cases lo with
  | none => exact ⟨fun k n h => by simp [unO] at h, fun _ => rfl⟩
  | some x =>
    refine ⟨fun k n h => ?_, fun h => by simp [unO] at h⟩
    simp only [unO, Option.some.injEq] at h
    have := (hR x).un (hu x (by simp))
    rw [h] at this
    simp [this.intInv]
theorem arr1 {α : Type} {a : Array α} {x : α} (h : a.toList = [x]) : a = #[x] := by
  apply Array.ext'; simpa using h
theorem arr2 {α : Type} {a : Array α} {x y : α} (h : a.toList = [x, y]) : a = #[x, y] := by
  apply Array.ext'; simpa using h
theorem map_two {α : Type} {f : Operand → α} {a : Array Operand} {x y : α} (h : a.toList.map f = [x, y]) : ∃ p q, a = #[p, q] ∧ x = f p ∧ y = f q := by
  cases hl : a.toList with
  | nil => rw [hl] at h; simp at h
  | cons p r =>
    cases r with
    | nil => rw [hl] at h; simp at h
    | cons q r =>
      cases r with
      | nil => rw [hl] at h; simp at h; exact ⟨p, q, arr2 hl, h.1.symm, h.2.symm⟩
      | cons _ _ => rw [hl] at h; simp at h
theorem map_one {α : Type} {f : Operand → α} {a : Array Operand} {x : α} (h : a.toList.map f = [x]) : ∃ p, a = #[p] ∧ x = f p := by
  cases hl : a.toList with
  | nil => rw [hl] at h; simp at h
  | cons p r =>
    cases r with
    | nil => rw [hl] at h; simp at h; exact ⟨p, arr1 hl, h.symm⟩
    | cons _ _ => rw [hl] at h; simp at h
theorem builtin_run (b : Builtin) (c : Call) (ho : o.op = .call c) (hc : c.callee = .builtin b) :
    ∃ cs, (execOp rv o).run P w = (builtin b c.argTypes o.type cs (c.args.map rv)).run P w := by
  refine ⟨c.args.map fun | .const _ => true | _ => false, ?_⟩
  simp only [execOp, ho, resolve, hc, invoke, Sem.run_bind, Sem.run_pure, Result.andThen_ok]
  congr 2
theorem evPure_ok {wr : Bool} (hhp : HeapOK w ok L φ) (ho : evPure P wr ρ o.op = some (v', p)) (hp : p) (hR : ∀ x, R w ok L φ (ρ x) (rv x)) (hu : ucL ρ (opnds o.op)) :
    ∃ v, (execOp rv o).run P w = .ok (.value v) w ∧ R w ok L φ v' v := by
  have hU := ucL_mem hu
  cases hop : o.op <;> rw [hop] at ho hU <;> simp only [evPure, reduceCtorEq] at ho
  case makeInterface t x =>
    obtain ⟨v, h1, h2⟩ := evMkI_ok ho hp ((hR x).un (hU x (by simp [opnds])))
    exact ⟨v, by simp [execOp, hop, h1], h2⟩
  case typeAssert x xT t b =>
    cases b with
    | false => simp [evPure] at ho
    | true =>
      simp only [evPure] at ho
      obtain ⟨v, h1, h2⟩ := evTA_ok (xT := xT) ho hp ((hR x).un (hU x (by simp [opnds])))
      exact ⟨v, by simp [execOp, hop, h1], h2⟩
  case move x =>
    simp only [Option.some.injEq, Prod.mk.injEq] at ho
    obtain ⟨rfl, rfl⟩ := ho
    exact ⟨_, by simp [execOp, hop], (hR x).un (hU x (by simp [opnds]))⟩
  case assign x =>
    simp only [Option.some.injEq, Prod.mk.injEq] at ho
    obtain ⟨rfl, rfl⟩ := ho
    exact ⟨_, by simp [execOp, hop], (hR x).un (hU x (by simp [opnds]))⟩
  case pick c a b =>
    unfold evPick at ho
    split at ho
    · rename_i t ht
      split at ho <;> simp only [Option.some.injEq, reduceCtorEq, Prod.mk.injEq] at ho
      · rename_i x y hx hy
        obtain ⟨rfl, rfl⟩ := ho
        obtain ⟨h1, h2, h3⟩ := hp
        have hc := (hR c).un h1
        rw [ht] at hc
        have hcv := hc.boolInv
        cases t with
        | true =>
          have ha := (hR a).un (h2 rfl)
          rw [hx] at ha
          have hav := ha.boolInv
          exact ⟨_, by simp [execOp, hop, hcv, asBool, hav], .pure _ _ (.bool _)⟩
        | false =>
          have hb := (hR b).un (h3 rfl)
          rw [hy] at hb
          have hbv := hb.boolInv
          exact ⟨_, by simp [execOp, hop, hcv, asBool, hbv], .pure _ _ (.bool _)⟩
      · rename_i x hx _
        obtain ⟨rfl, rfl⟩ := ho
        obtain ⟨h1, h2, h3⟩ := hp
        have hc := (hR c).un h1
        rw [ht] at hc
        have hcv := hc.boolInv
        have ht' : t = true := h2
        subst ht'
        have ha := (hR a).un h3
        rw [hx] at ha
        have hav := ha.boolInv
        exact ⟨_, by simp [execOp, hop, hcv, asBool, hav], .pure _ _ (.bool _)⟩
      · rename_i y hy _
        obtain ⟨rfl, rfl⟩ := ho
        obtain ⟨h1, h2, h3⟩ := hp
        have hc := (hR c).un h1
        rw [ht] at hc
        have hcv := hc.boolInv
        have ht' : t = false := by simpa [isT] using h2
        subst ht'
        have hb := (hR b).un h3
        rw [hy] at hb
        have hbv := hb.boolInv
        exact ⟨_, by simp [execOp, hop, hcv, asBool, hbv], .pure _ _ (.bool _)⟩
    · simp at ho
  case binOp op t x y yt =>
    obtain ⟨v, h1, h2⟩ := evBinX_ok (ox := x) (oy := y) ho hp ((hR x).un (hU x (by simp [opnds]))) ((hR y).un (hU y (by simp [opnds])))
    exact ⟨v, by simp only [execOp, hop]; rw [Sem.run_bind, h1]; rfl, h2⟩
  case unOp op t x =>
    obtain ⟨v, h1, h2⟩ := evUn_ok (P := P) ho hp ((hR x).un (hU x (by simp [opnds])))
    exact ⟨v, by simp only [execOp, hop]; rw [Sem.run_bind, h1]; rfl, h2⟩
  case convert s d x =>
    obtain ⟨v, h1, h2⟩ := evConv_ok ho hp ((hR x).un (hU x (by simp [opnds])))
    exact ⟨v, by simp only [execOp, hop]; rw [Sem.run_bind, h1]; rfl, h2⟩
  case index t x i =>
    obtain ⟨v, h1, h2⟩ := evIndex_ok ho hp ((hR x).un (hU x (by simp [opnds]))) ((hR i).un (hU i (by simp [opnds])))
    exact ⟨v, by simp only [execOp, hop]; rw [Sem.run_bind, h1]; rfl, h2⟩
  case field t x f =>
    obtain ⟨v, h1, h2⟩ := evField_ok ho hp ((hR x).un (hU x (by simp [opnds])))
    exact ⟨v, by simp only [execOp, hop]; rw [Sem.run_bind, h1]; rfl, h2⟩
  case fieldAddr t x f =>
    obtain ⟨v, h1, h2⟩ := evFieldAddr_ok ho hp ((hR x).un (hU x (by simp [opnds])))
    exact ⟨v, by simp only [execOp, hop]; rw [Sem.run_bind, h1]; rfl, h2⟩
  case indexAddr t x i =>
    obtain ⟨v, h1, h2⟩ := evIndexAddr_ok ho hp ((hR x).un (hU x (by simp [opnds]))) ((hR i).un (hU i (by simp [opnds])))
    exact ⟨v, by simp only [execOp, hop]; rw [Sem.run_bind, h1]; rfl, h2⟩
  case slice t x lo hi mx =>
    obtain ⟨a1, a2⟩ := boundsR (lo := lo) hR (fun y hy => hU y (by simp only [opnds, List.mem_append]; exact .inl (.inl (.inr hy))))
    obtain ⟨b1, b2⟩ := boundsR (lo := hi) hR (fun y hy => hU y (by simp only [opnds, List.mem_append]; exact .inl (.inr hy)))
    obtain ⟨c1, c2⟩ := boundsR (lo := mx) hR (fun y hy => hU y (by simp only [opnds, List.mem_append]; exact .inr hy))
    obtain ⟨v, h1, h2⟩ := evSlice_ok hhp ho hp ((hR x).un (hU x (by simp [opnds]))) a1 a2 b1 b2 c1 c2
    exact ⟨v, by simp only [execOp, hop]; rw [Sem.run_bind, h1]; rfl, h2⟩
  case extract x i =>
    obtain ⟨v, h1, h2⟩ := evExtract_ok (P := P) ho hp ((hR x).un (hU x (by simp [opnds])))
    exact ⟨v, by simp only [execOp, hop]; rw [Sem.run_bind, h1]; rfl, h2⟩
  case build t ps =>
    obtain ⟨v, h1, h2⟩ := evBuild_ok (qs := ps.map fun (i, x) => (i, rv x)) ho hp (by simp) (fun i x y hx hy => by
      simp only [List.getElem?_map, Array.getElem?_map, Option.map_eq_some_iff] at hx hy
      obtain ⟨a, ha, rfl⟩ := hx
      obtain ⟨b, hb, rfl⟩ := hy
      have e : a = b := by simp at ha; rw [ha] at hb; exact Option.some.inj hb
      subst e
      exact ⟨rfl, (hR _).un (hU _ (by simp only [opnds, List.mem_map]; exact ⟨a, List.mem_of_getElem? ha, rfl⟩))⟩)
    exact ⟨v, by simp only [execOp, hop]; rw [Sem.run_bind, h1]; rfl, h2⟩
  case makeFunc fn fst cs =>
    cases fn <;> simp only [evPure, reduceCtorEq] at ho
    rename_i f
    simp only [Option.some.injEq, Prod.mk.injEq] at ho
    obtain ⟨rfl, rfl⟩ := ho
    refine ⟨.func (.func f) (fst.map rv) (cs.map rv), by simp [execOp, hop, Instr.makeFunc], ?_⟩
    have := R.clo (w := w) (ok := ok) (L := L) (φ := φ) f fst.size ((fst.toList ++ cs.toList).map fun x => (ρ x).un) ((fst.toList ++ cs.toList).map rv) (by simp) (fun i a v ha hv => by
      simp only [List.getElem?_map, Option.map_eq_some_iff] at ha hv
      obtain ⟨x, hx, rfl⟩ := ha
      obtain ⟨y, hy, rfl⟩ := hv
      rw [hx] at hy; cases hy
      exact (hR x).un (hU x (by simp only [opnds]; exact List.mem_of_getElem? hx)))
    have e1 : (((fst.toList ++ cs.toList).map rv).take fst.size).toArray = fst.map rv := by
      apply Array.ext'; rw [List.map_append, List.take_left' (by simp)]; simp
    have e2 : (((fst.toList ++ cs.toList).map rv).drop fst.size).toArray = cs.map rv := by
      apply Array.ext'; rw [List.map_append, List.drop_left' (by simp)]; simp
    rw [e1, e2] at this
    exact this
  case nilCheck x =>
    have hx := (hR x).un (hU x (by simp [opnds]))
    unfold evNilCheck at ho
    split at ho <;> simp only [Option.some.injEq, reduceCtorEq, Prod.mk.injEq] at ho <;> obtain ⟨rfl, rfl⟩ := ho <;> rename_i he <;> rw [he] at hx
    · refine ⟨rv x, ?_, hx⟩
      obtain ⟨b, o, e⟩ := hx.radrInv
      simp [execOp, hop, e]
    · refine ⟨rv x, ?_, hx⟩
      obtain ⟨pa, _, _, _, _, e, _⟩ := hx.ptrInv
      simp [execOp, hop, e]
    · refine ⟨rv x, ?_, hx⟩
      obtain ⟨b, e⟩ : ∃ b, rv x = .pointer (some ⟨b, 0, none⟩) := by
        generalize rv x = u at hx
        cases hx with
        | pure _ _ h => cases h
        | it _ _ _ b => exact ⟨b, rfl⟩
      simp [execOp, hop, e]
    · refine ⟨rv x, ?_, hx⟩
      obtain ⟨b, e⟩ : ∃ b, rv x = .func (.yield b) #[] #[] := by
        generalize rv x = u at hx
        cases hx with
        | pure _ _ h => cases h
        | yld _ _ _ _ _ b => exact ⟨b, rfl⟩
      simp [execOp, hop, e]
    · refine ⟨rv x, ?_, hx⟩
      obtain ⟨f, fs, cs, e⟩ : ∃ f fs cs, rv x = .func (.func f) fs cs := by
        generalize rv x = u at hx
        cases hx with
        | pure _ _ h => cases h; exact ⟨_, _, _, rfl⟩
        | clo f k cs vs => exact ⟨_, _, _, rfl⟩
      simp [execOp, hop, e]
  case call c =>
    obtain ⟨cal, args, ats⟩ := c
    cases cal <;> simp only [evPure, reduceCtorEq] at ho
    rename_i b
    obtain ⟨kk, hrun⟩ := builtin_run (P := P) (w := w) (rv := rv) b _ hop rfl
    rw [hrun]
    unfold evBuiltin at ho
    split at ho
    · split at ho <;> try (simp at ho; done)
      rename_i t x ht hx
      obtain ⟨y, rfl, rfl⟩ := map_one hx
      have e := arr1 ht
      subst e
      obtain ⟨v, h1, h2⟩ := evLen_ok (ty := o.type) ho hp ((hR y).un (hU y (by simp [opnds])))
      refine ⟨v, ?_, h2⟩
      simp only [builtin, Sem.run_bind, List.map_toArray, List.map_cons, List.map_nil, h1, Result.andThen_ok, Sem.run_pure]
    · split at ho <;> try (simp at ho; done)
      rename_i x y hx
      obtain ⟨x1, y1, rfl, rfl, rfl⟩ := map_two hx
      obtain ⟨v, h1, h2⟩ := evMax_ok (P := P) (t := ats) (ty := o.type) ho hp ((hR x1).un (hU x1 (by simp [opnds]))) ((hR y1).un (hU y1 (by simp [opnds])))
      refine ⟨v, ?_, h2⟩
      simp only [builtin, Sem.run_bind, List.map_toArray, List.map_cons, List.map_nil, h1, Result.andThen_ok, Sem.run_pure]
    · split at ho <;> try (simp at ho; done)
      rename_i x y hx
      obtain ⟨x1, y1, rfl, rfl, rfl⟩ := map_two hx
      obtain ⟨v, h1, h2⟩ := evMin_ok (P := P) (t := ats) (ty := o.type) ho hp ((hR x1).un (hU x1 (by simp [opnds]))) ((hR y1).un (hU y1 (by simp [opnds])))
      refine ⟨v, ?_, h2⟩
      simp only [builtin, Sem.run_bind, List.map_toArray, List.map_cons, List.map_nil, h1, Result.andThen_ok, Sem.run_pure]
    · simp at ho
theorem evRead_ok (ho : evRead P L ρ o.op = some (v', p)) (hp : p) (hh : HeapOK w ok L φ) (hR : ∀ x, R w ok L φ (ρ x) (rv x)) (hu : ucL ρ (opnds o.op)) :
    ∃ v, (execOp rv o).run P w = .ok (.value v) w ∧ R w ok L φ v' v := by
  have hU := ucL_mem hu
  cases hop : o.op <;> rw [hop] at ho hU <;> simp only [evRead, reduceCtorEq] at ho
  case lookup t x k b =>
    cases b with
    | true => simp at ho
    | false =>
      simp only at ho
      obtain ⟨v, h1, h2⟩ := rdLookup_ok ho hp hh ((hR x).un (hU x (by simp [opnds]))) ((hR k).un (hU k (by simp [opnds])))
      exact ⟨v, by simp only [execOp, hop]; rw [Sem.run_bind, h1]; rfl, h2⟩
  case load t x =>
    obtain ⟨v, h1, h2⟩ := rdLoad_ok ho hp hh ((hR x).un (hU x (by simp [opnds])))
    exact ⟨v, by simp only [execOp, hop]; rw [Sem.run_bind, h1]; rfl, h2⟩
  case indexAddr t x i =>
    obtain ⟨v, h1, h2⟩ := rdIndexAddr_ok ho hp ((hR x).un (hU x (by simp [opnds]))) ((hR i).un (hU i (by simp [opnds])))
    exact ⟨v, by simp only [execOp, hop]; rw [Sem.run_bind, h1]; rfl, h2⟩
  case slice t x lo hi mx =>
    obtain ⟨a1, a2⟩ := boundsR (lo := lo) hR (fun y hy => hU y (by simp only [opnds, List.mem_append]; exact .inl (.inl (.inr hy))))
    obtain ⟨b1, b2⟩ := boundsR (lo := hi) hR (fun y hy => hU y (by simp only [opnds, List.mem_append]; exact .inl (.inr hy)))
    obtain ⟨c1, c2⟩ := boundsR (lo := mx) hR (fun y hy => hU y (by simp only [opnds, List.mem_append]; exact .inr hy))
    obtain ⟨v, h1, h2⟩ := rdSlice_ok ho hp hh ((hR x).un (hU x (by simp [opnds]))) a1 a2 b1 b2 c1 c2
    exact ⟨v, by simp only [execOp, hop]; rw [Sem.run_bind, h1]; rfl, h2⟩
  case convert s d x =>
    obtain ⟨v, h1, h2⟩ := rdCv_ok ho hp hh ((hR x).un (hU x (by simp [opnds])))
    exact ⟨v, by simp only [execOp, hop]; rw [Sem.run_bind, h1]; rfl, h2⟩
  case binOp op t x y yt =>
    obtain ⟨v, h1, h2⟩ := rdPeq_ok (ox := x) (oy := y) ho hp ((hR x).un (hU x (by simp [opnds]))) ((hR y).un (hU y (by simp [opnds])))
    exact ⟨v, by simp only [execOp, hop]; rw [Sem.run_bind, h1]; rfl, h2⟩
  case call c =>
    obtain ⟨cal, args, ats⟩ := c
    cases cal <;> try (simp [evRead] at ho; done)
    rename_i b
    cases b <;> try (simp [evRead] at ho; done)
    case unsafeSliceData =>
      simp only [evRead] at ho
      obtain ⟨kk, hrun⟩ := builtin_run (P := P) (w := w) (rv := rv) .unsafeSliceData _ hop rfl
      rw [hrun]
      split at ho <;> try (simp at ho; done)
      rename_i x hx
      have e' := arr1 hx
      subst e'
      obtain ⟨v, h1, h2⟩ := rdUSD_ok (P := P) (ts := ats) (ty := o.type) ho hp ((hR x).un (hU x (by simp [opnds])))
      refine ⟨v, ?_, h2⟩
      simp only [builtin, Sem.run_bind, List.map_toArray, List.map_cons, List.map_nil, h1, Result.andThen_ok, Sem.run_pure]
    simp only [evRead] at ho
    obtain ⟨kk, hrun⟩ := builtin_run (P := P) (w := w) (rv := rv) .len _ hop rfl
    rw [hrun]
    split at ho <;> try (simp at ho; done)
    rename_i t x ht hx
    have e := arr1 ht
    have e' := arr1 hx
    subst e; subst e'
    obtain ⟨v, h1, h2⟩ := rdLen_ok (ty := o.type) ho hp ((hR x).un (hU x (by simp [opnds])))
    refine ⟨v, ?_, h2⟩
    simp only [builtin, Sem.run_bind, List.map_toArray, List.map_cons, List.map_nil, h1, Result.andThen_ok, Sem.run_pure]
theorem run_value {s : Sem Value} {v : Value} {w' : World} (h : s.run P w = .ok v w') : (do pure (Next.value (← s)) : Sem Next).run P w = .ok (.value v) w' := by
  rw [Sem.run_bind, h]; rfl
theorem evEff_ok {w0 : World} {X : Nat → Prop} {id i : Nat} {b : Blk} (ho : evEff P L id ρ o.op = some (v', i, b, p)) (hp : p) (hh : HeapOK w ok L φ) (hw0 : w0.heap.size ≤ w.heap.size)
    (hR : ∀ x, R w ok L φ (ρ x) (rv x)) (hu : ucL ρ (opnds o.op)) :
    ∃ n v w' φ', (execOp rv o).run P w = .ok n w' ∧ (n = .value v ∨ (n = .skip ∧ v = undef)) ∧ Ext w0 X L ok φ w (updL L i b) ok φ' w' ∧ R w' ok (updL L i b) φ' v' v := by
  have hU := ucL_mem hu
  have fin : ∀ {s : Sem Value}, EffOK P w0 X s L ok φ w v' i b → execOp rv o = (do pure (Next.value (← s))) →
      ∃ n v w' φ', (execOp rv o).run P w = .ok n w' ∧ (n = .value v ∨ (n = .skip ∧ v = undef)) ∧ Ext w0 X L ok φ w (updL L i b) ok φ' w' ∧ R w' ok (updL L i b) φ' v' v := by
    intro s ⟨v, w', φ', h1, h2, h3⟩ he
    exact ⟨.value v, v, w', φ', by rw [he]; exact run_value h1, .inl rfl, h2, h3⟩
  cases hop : o.op <;> rw [hop] at ho hU <;> try (simp [evEff] at ho; done)
  case alloc t =>
    simp only [evEff] at ho
    split at ho
    · rename_i z hz
      split at ho <;> simp only [Option.some.injEq, reduceCtorEq, Prod.mk.injEq] at ho
      rename_i v1 i1 b1 p1 he
      obtain ⟨rfl, rfl, rfl, rfl⟩ := ho
      exact fin (efAlloc_ok hz he hp.1 hp.2 hh hw0) (by simp [execOp, hop])
    · simp at ho
  case makeMap t r =>
    cases r with
    | some _ => simp [evEff] at ho
    | none =>
      simp only [evEff] at ho
      exact fin (efMakeMap_ok (P := P) ho hh hw0) (by simp [execOp, hop])
  case mapUpdate t x k y =>
    simp only [evEff] at ho
    obtain ⟨hany, w', φ', h1, h2⟩ := efMapPut_ok (w0 := w0) (X := X) ho hh ((hR x).un (hU x (by simp [opnds]))) ((hR k).un (hU k (by simp [opnds]))) ((hR y).un (hU y (by simp [opnds])))
    refine ⟨.skip, undef, w', φ', ?_, .inr ⟨rfl, rfl⟩, h2, by rw [hany]; exact .pure _ _ (.any _)⟩
    simp only [execOp, hop, Sem.run_bind, h1, Result.andThen_ok, Sem.run_pure]
  case box t x =>
    simp only [evEff] at ho
    exact fin (efBoxed_ok ho hp hh hw0 ((hR x).un (hU x (by simp [opnds])))) (by simp [execOp, hop, Instr.box])
  case buildSlice t n ps =>
    simp only [evEff] at ho
    refine fin (s := Instr.buildSlice t n (ps.map fun (i, x) => (i, rv x))) (efBuildSlice_ok ho hp hh hw0 (by simp) (fun i x y hx hy => by
      simp only [List.getElem?_map, Array.getElem?_map, Option.map_eq_some_iff] at hx hy
      obtain ⟨a, ha, rfl⟩ := hx
      obtain ⟨b, hb, rfl⟩ := hy
      have e : a = b := by simp at ha; rw [ha] at hb; exact Option.some.inj hb
      subst e
      exact ⟨rfl, (hR _).un (hU _ (by simp only [opnds, List.mem_map]; exact ⟨a, List.mem_of_getElem? ha, rfl⟩))⟩)) (by simp [execOp, hop])
  case makeSlice t l c =>
    simp only [evEff] at ho
    exact fin (efMake_ok ho hp hh hw0 ((hR l).un (hU l (by simp [opnds]))) ((hR c).un (hU c (by simp [opnds])))) (by simp [execOp, hop])
  case store t x y =>
    simp only [evEff] at ho
    have hany : v' = .any := efStore_any ho
    obtain ⟨w', φ', h1, h2⟩ := efStore_ok (w0 := w0) (X := X) ho hp hh ((hR x).un (hU x (by simp [opnds]))) ((hR y).un (hU y (by simp [opnds])))
    refine ⟨.skip, undef, w', φ', ?_, .inr ⟨rfl, rfl⟩, h2, by rw [hany]; exact .pure _ _ (.any _)⟩
    simp only [execOp, hop, Sem.run_bind, h1, Result.andThen_ok, Sem.run_pure]
  case convert s d x =>
    simp only [evEff] at ho
    exact fin (efBytes_ok ho hp hh hw0 ((hR x).un (hU x (by simp [opnds])))) (by simp [execOp, hop])
  case range t x =>
    simp only [evEff] at ho
    exact fin (efRange_ok ho hp hh hw0 ((hR x).un (hU x (by simp [opnds])))) (by simp [execOp, hop])
  case next x isS =>
    cases isS
    · simp [evEff] at ho
    · simp only [evEff] at ho
      exact fin (efNext_ok (P := P) (ty := o.type) ho hp hh ((hR x).un (hU x (by simp [opnds])))) (by simp [execOp, hop])
  case call c =>
    obtain ⟨cal, args, ats⟩ := c
    cases cal <;> try (simp [evEff] at ho; done)
    rename_i bb
    cases bb <;> try (simp [evEff] at ho; done)
    case clear =>
      simp only [evEff] at ho
      split at ho <;> try (simp at ho; done)
      rename_i t x ht hx
      have e := arr1 ht
      have e' := arr1 hx
      subst e; subst e'
      obtain ⟨v, w', φ', h1, h2, h3⟩ := efClear_ok (ty := o.type) (w0 := w0) (X := X) ho hp hh ((hR x).un (hU x (by simp [opnds])))
      obtain ⟨kk, hrun⟩ := builtin_run (P := P) (w := w) (rv := rv) .clear _ hop rfl
      refine ⟨.value v, v, w', φ', ?_, .inl rfl, h2, h3⟩
      rw [hrun]
      simp only [builtin, Sem.run_bind, List.map_toArray, List.map_cons, List.map_nil, h1, Result.andThen_ok, Sem.run_pure]
    case copy =>
      simp only [evEff] at ho
      split at ho <;> try (simp at ho; done)
      rename_i t u x y ht hx
      have e := arr2 ht
      have e' := arr2 hx
      subst e; subst e'
      obtain ⟨v, w', φ', h1, h2, h3⟩ := efCopy_ok (sT := u) (ty := o.type) (w0 := w0) (X := X) ho hp hh ((hR x).un (hU x (by simp [opnds]))) ((hR y).un (hU y (by simp [opnds])))
      obtain ⟨kk, hrun⟩ := builtin_run (P := P) (w := w) (rv := rv) .copy _ hop rfl
      refine ⟨.value v, v, w', φ', ?_, .inl rfl, h2, h3⟩
      rw [hrun]
      simp only [builtin, Sem.run_bind, List.map_toArray, List.map_cons, List.map_nil, h1, Result.andThen_ok, Sem.run_pure]
    case unsafeString =>
      simp only [evEff] at ho
      split at ho <;> try (simp at ho; done)
      rename_i t u x y ht hx
      have e := arr2 ht
      have e' := arr2 hx
      subst e; subst e'
      obtain ⟨v, w', φ', h1, h2, h3⟩ := efUStr_ok (it := u) (ty := o.type) (w0 := w0) (X := X) ho hp hh ((hR x).un (hU x (by simp [opnds]))) ((hR y).un (hU y (by simp [opnds])))
      obtain ⟨kk, hrun⟩ := builtin_run (P := P) (w := w) (rv := rv) .unsafeString _ hop rfl
      refine ⟨.value v, v, w', φ', ?_, .inl rfl, h2, h3⟩
      rw [hrun]
      simp only [builtin, Sem.run_bind, List.map_toArray, List.map_cons, List.map_nil, h1, Result.andThen_ok, Sem.run_pure]
    simp only [evEff] at ho
    split at ho <;> try (simp at ho; done)
    rename_i t u x y ht hx
    have e := arr2 ht
    have e' := arr2 hx
    subst e; subst e'
    obtain ⟨v, w', φ', h1, h2, h3⟩ := efAppend_ok (ty := o.type) (w0 := w0) (X := X) ho hp hh hw0 ((hR x).un (hU x (by simp [opnds]))) ((hR y).un (hU y (by simp [opnds])))
    obtain ⟨kk, hrun⟩ := builtin_run (P := P) (w := w) (rv := rv) .append _ hop rfl
    refine ⟨.value v, v, w', φ', ?_, .inl rfl, h2, h3⟩
    rw [hrun]
    simp only [builtin, Sem.run_bind, List.map_toArray, List.map_cons, List.map_nil, h1, Result.andThen_ok, Sem.run_pure]
theorem scal_R {w' : World} {ok' : Nat → Nat → Prop} {L' : Nat → Option Blk} {φ' : Nat → Option Nat} {a : AV} {v : Value} (hs : scal a = true) (h : R w ok L φ a v) : R w' ok' L' φ' a v := by
  have base : ∀ {a v}, (match a with | .any | .bool _ | .int .. | .str _ | .nils | .nilp | .nili | .nilf => true | _ => false) = true → R w ok L φ a v → Rp w' ok' a v := by
    intro a v hs h
    cases h with
    | pure _ _ h => cases h <;> first | exact .any _ | exact .bool _ | exact .int _ _ | exact .str _ | exact .nils | exact .nilp | exact .nili | exact .nilf | (simp at hs)
    | _ => simp at hs
  have aggs : ∀ {cs v}, (cs.all fun | AV.any | .bool _ | .int .. | .str _ | .nils | .nilp | .nili | .nilf => true | _ => false) = true → R w ok L φ (.agg cs) v → Rp w' ok' (.agg cs) v := by
    intro cs v hs h
    obtain ⟨vs, rfl, hl, ho, hr⟩ := h.aggInv
    refine .agg cs vs hl ho (fun i a v ha hv => base ?_ (hr i a v ha hv))
    exact List.all_eq_true.1 hs a (List.mem_of_getElem? ha)
  cases a <;> try (simp [scal] at hs; done)
  case any => exact .pure _ _ (base rfl h)
  case bool b => exact .pure _ _ (base rfl h)
  case int k n => exact .pure _ _ (base rfl h)
  case str s => exact .pure _ _ (base rfl h)
  case nils => exact .pure _ _ (base rfl h)
  case nilp => exact .pure _ _ (base rfl h)
  case nili => exact .pure _ _ (base rfl h)
  case nilf => exact .pure _ _ (base rfl h)
  case nxt m q r =>
    cases h with
    | pure _ _ h => cases h; exact .pure _ _ (.nxtT _ _); exact .pure _ _ (.nxtF _ _)
  case agg cs => exact .pure _ _ (aggs hs h)
  case tuple cs =>
    simp only [scal] at hs
    have hmem : ∀ (i : Nat) (a : AV) (v : Value), cs[i]? = some a → R w ok L φ a v → Rp w' ok' a v := by
      intro i a v ha hr
      have h1 := List.all_eq_true.1 hs a (List.mem_of_getElem? ha)
      cases a <;> try (simp at h1; done)
      case agg ds => exact aggs h1 hr
      all_goals exact base rfl hr
    cases h with
    | pure _ _ h => cases h with | tuple _ vs hl h2 => exact .pure _ _ (.tuple cs vs hl (fun i a v ha hv => hmem i a v ha (.pure _ _ (h2 i a v ha hv))))
    | tuple _ vs hl h2 => exact .pure _ _ (.tuple cs vs hl (fun i a v ha hv => hmem i a v ha (h2 i a v ha hv)))
theorem freshIds_spec {nb : Nat} : ∀ {E : List Blk} {i : Nat}, freshIds L nb E i → L deadId = none ∧ ∀ k, i ≤ k → k < i + E.length → L (nb + k) = none
  | [], i, h => ⟨h, fun k h1 h2 => by simp at h2; omega⟩
  | b :: r, i, h => by
    obtain ⟨h1, h2⟩ := h
    obtain ⟨h3, h4⟩ := freshIds_spec h2
    refine ⟨h3, fun k h5 h6 => ?_⟩
    by_cases e : k = i
    · subst e; exact h1
    · exact h4 k (by omega) (by simp at h6; omega)
theorem newBlks_lk (σ : Nat → Nat) (j : Nat) (rest : List (Nat × Blk)) : ∀ (E : List Blk) (i : Nat), (∀ a b, i ≤ a → a < i + E.length → i ≤ b → b < i + E.length → σ a = σ b → a = b) →
    lkB (newBlks σ E i ++ rest) j = match (List.range' i E.length).find? (fun k => σ k == j) with | some k => (E[k - i]?).map (renB σ) | none => lkB rest j
  | [], i, _ => by simp [newBlks]
  | b :: r, i, hinj => by
    simp only [newBlks, List.cons_append, lkB, List.length_cons, List.range'_succ, List.find?_cons]
    by_cases e : σ i = j
    · simp [e]
    · rw [if_neg e, show (σ i == j) = false by simpa using e]
      simp only
      rw [newBlks_lk σ j rest r (i + 1) (fun a b h1 h2 h3 h4 => hinj a b (by omega) (by simp; omega) (by omega) (by simp; omega))]
      cases hf : (List.range' (i + 1) r.length).find? (fun k => σ k == j) with
      | none => rfl
      | some k =>
        have hm := List.mem_of_find?_eq_some hf
        have := List.mem_range'_1.1 hm
        simp only
        rw [show k - i = (k - (i + 1)) + 1 by omega, List.getElem?_cons_succ]
theorem marks_lk (Lst : List (Nat × Blk)) (hL : L = lkB Lst) (j : Nat) : ∀ V, lkB (marks L V ++ Lst) j = if j ∈ V then (L j).map roB else L j
  | [] => by simp [marks, hL]
  | i :: r => by
    simp only [marks]
    cases hi : L i with
    | none =>
      simp only
      rw [marks_lk Lst hL j r]
      by_cases e : j = i
      · subst e; simp [hi]
      · simp [e]
    | some b =>
      simp only [List.cons_append, lkB]
      by_cases e : i = j
      · subst e; simp [hi]
      · rw [if_neg e, marks_lk Lst hL j r]
        simp [Ne.symm e]
theorem sig_lt {nb k i : Nat} (h : i < k) : sig nb k i = nb + i := by simp [sig, h]
theorem lkB_free : ∀ (l : List (Nat × Blk)), ∃ d, ∀ e, d ≤ e → lkB l e = none
  | [] => ⟨0, fun _ _ => rfl⟩
  | (i, b) :: r => by
    obtain ⟨d, hd⟩ := lkB_free r
    refine ⟨max d (i + 1), fun e he => ?_⟩
    simp only [lkB]
    rw [if_neg (by omega)]
    exact hd e (by omega)
theorem evCall1_ok {C : Tbl} (hC : TblOK P C) {w0 : World} {X : Nat → Prop} {Lst : List (Nat × Blk)} {id f : Nat} {xs : List AV} {u : List (Nat × Blk)} {vs : List Value} (hL : L = lkB Lst)
    (ho : evCall1 C L id f xs = some (v', u, p)) (hp : p) (hh : HeapOK w ok L φ) (hl : vs.length = xs.length)
    (hr : ∀ (i : Nat) (a : AV) (v : Value), xs[i]? = some a → vs[i]? = some v → R w ok L φ a v) :
    CallsX P f vs w fun e w' => ∃ v ok' φ', e = .returned v ∧ Ext w0 X L ok φ w (lkB (u ++ Lst)) ok' φ' w' ∧ R w' ok' (lkB (u ++ Lst)) φ' v' v := by
  unfold evCall1 call1a at ho
  split at ho
  · rename_i ys V q hpur
    have main0 : ∀ E' res p' (σ : Nat → Nat), C f [] ys = some (E', res, p') → p' → q → (∀ i, i < E'.length → σ i = id + i) → (∀ i, i < E'.length → L (id + i) = none) → (∀ i, E'.length ≤ i → L (σ i) = none) →
        CallsX P f vs w fun e w' => ∃ v ok' φ', e = .returned v ∧ Ext w0 X L ok φ w (lkB (newBlks σ E' 0 ++ (marks L V ++ Lst))) ok' φ' w' ∧
          R w' ok' (lkB (newBlks σ E' 0 ++ (marks L V ++ Lst))) φ' (ren σ res) v := by
      intro E' res p' σ hc hp' hq hσ hnew hdead
      have hspec := hC f [] ys E' res p' hc
      obtain ⟨h1, h2⟩ := purL_ok (okv := fun b o => ok b o ∨ Seen L φ V b o) hh hpur hq hl hr (fun _ _ h => .inl h) (fun _ _ h => .inr h)
      have hs : Hands L [] σ V E'.length := by
        refine ⟨fun i b hb => by simp at hb, fun i _ => ?_, fun i j hi hj e => ?_, Nat.zero_le _⟩
        · by_cases hi : i < E'.length
          · rw [hσ i hi]; exact hnew i hi
          · exact hdead i (by omega)
        · rw [hσ i hi, hσ j hj] at e; omega
      refine (hspec hp' w (fun b o => ok b o ∨ Seen L φ V b o) (fun i => φ (σ i)) vs (hh.callee hs) (by rw [h1]) (fun i a v ha hv => .pure _ _ (h2 i a v ha hv))).mono ?_
      rintro e w' ⟨v, ok', φ', rfl, post⟩
      obtain ⟨g1, g2⟩ := Ext.call (w0 := w0) (X := X) hh hs post
      have hfun : afterL L σ V E' = lkB (newBlks σ E' 0 ++ (marks L V ++ Lst)) := by
        funext j
        rw [newBlks_lk σ j (marks L V ++ Lst) E' 0 (fun a b _ h1 _ h2 e => by rw [hσ a (by omega), hσ b (by omega)] at e; omega), marks_lk Lst hL j V]
        simp only [afterL, List.range_eq_range', Nat.sub_zero]
        try rfl
      rw [hfun] at g1 g2
      exact ⟨v, ok', _, rfl, g1, g2⟩
    have main : ∀ E' res p', C f [] ys = some (E', res, p') → p' → q → (freshIds L id E' 0) →
        CallsX P f vs w fun e w' => ∃ v ok' φ', e = .returned v ∧ Ext w0 X L ok φ w (lkB (newBlks (sig id E'.length) E' 0 ++ (marks L V ++ Lst))) ok' φ' w' ∧
          R w' ok' (lkB (newBlks (sig id E'.length) E' 0 ++ (marks L V ++ Lst))) φ' (ren (sig id E'.length) res) v := by
      intro E' res p' hc hp' hq hfr
      obtain ⟨hdead, hnew⟩ := freshIds_spec hfr
      exact main0 E' res p' _ hc hp' hq (fun i hi => sig_lt hi) (fun i hi => hnew i (Nat.zero_le _) (by omega)) (fun i hi => by simp only [sig, if_neg (Nat.not_lt.2 hi)]; exact hdead)
    unfold call1b at ho
    split at ho
    · rename_i res p' hc
      unfold call1c at ho
      split at ho <;> simp only [Option.some.injEq, reduceCtorEq, Prod.mk.injEq] at ho
      · rename_i hsc
        obtain ⟨rfl, rfl, rfl⟩ := ho
        obtain ⟨hq, hp'⟩ := hp
        have hspec := hC f [] ys [] res p' hc
        obtain ⟨h1, h2⟩ := purL_ok (okv := fun b o => ok b o ∨ Seen L φ V b o) hh hpur hq hl hr (fun _ _ h => .inl h) (fun _ _ h => .inr h)
        have hk : HeapOK w (fun b o => ok b o ∨ Seen L φ V b o) (lkE []) (fun _ => none) := by
          refine ⟨fun id sz ro d c h => by simp [lkE] at h, fun id b h => by simp [lkE] at h, fun _ _ => rfl, fun i j b h => by simp at h, fun b o hb => ⟨?_, fun id h => by simp at h⟩⟩
          rcases hb with hb | ⟨id, hid, h3, _⟩
          · exact (hh.shut b o hb).1
          · exact hh.lt h3
        refine (hspec hp' w _ _ vs hk (by rw [h1]) (fun i a v ha hv => .pure _ _ (h2 i a v ha hv))).mono ?_
        rintro e w' ⟨v, ok', φ', rfl, post⟩
        have hfr : Fr (fun _ => False) w w' := ⟨post.frame.os, post.frame.tape, post.frame.output, post.frame.size, fun k hk _ => post.frame.block k hk (fun ⟨i, hi⟩ => by simp at hi)⟩
        refine ⟨v, ok, φ, rfl, ?_, ?_⟩
        · rw [List.nil_append, ← hL]; exact Ext.quiet hh hfr
        · exact scal_R hsc post.val
      · obtain ⟨rfl, rfl, rfl⟩ := ho
        obtain ⟨hq, hp', hfr⟩ := hp
        unfold deadOK at hfr
        split at hfr
        · obtain ⟨d, hd⟩ := lkB_free Lst
          have := main0 [] _ p' (fun _ => d) hc hp' hq (fun i hi => by simp at hi) (fun i hi => by simp at hi) (fun i _ => by rw [hL]; exact hd d (Nat.le_refl d))
          simpa [newBlks, Abs.ren] using this
        · have := main [] res p' hc hp' hq hfr
          simpa [newBlks] using this
    · rename_i b0 E0 res p' hc
      generalize b0 :: E0 = E' at *
      simp only [Option.some.injEq, Prod.mk.injEq] at ho
      obtain ⟨rfl, rfl, rfl⟩ := ho
      obtain ⟨hq, hp', hfr⟩ := hp
      have := main E' res p' hc hp' hq hfr
      rw [List.append_assoc]
      exact this
    · simp at ho
  · simp at ho
theorem hasId_iff {i : Nat} : ∀ {l : List Nat}, hasId l i = true ↔ i ∈ l
  | [] => by simp [hasId]
  | j :: r => by
    simp only [hasId]
    by_cases e : i = j
    · simp [e]
    · rw [if_neg e, hasId_iff]; simp [e]
theorem noDup_iff : ∀ {l : List Nat}, noDup l = true → l.Nodup
  | [], _ => List.nodup_nil
  | i :: r, h => by
    simp only [noDup] at h
    split at h
    · cases h
    · rename_i hn
      rw [hasId_iff] at hn
      exact List.nodup_cons.2 ⟨hn, noDup_iff h⟩
theorem apartIds_iff {ids : List Nat} : ∀ {l : List Nat}, apartIds l ids = true → ∀ i ∈ l, i ∉ ids
  | [], _, i, hi => by simp at hi
  | j :: r, h, i, hi => by
    simp only [apartIds] at h
    split at h
    · cases h
    · rename_i hn
      rw [hasId_iff] at hn
      rcases List.mem_cons.1 hi with rfl | hi
      · exact hn
      · exact apartIds_iff h i hi
theorem sameBlks_len {σ : Nat → Nat} : ∀ {E : List Blk} {ids : List Nat}, sameBlks L σ E ids → E.length = ids.length
  | [], [], _ => rfl
  | [], _ :: _, h => h.elim
  | _ :: _, [], h => h.elim
  | b :: r, i :: s, h => by simp [sameBlks_len h.2]
theorem sameBlks_get {σ : Nat → Nat} : ∀ {E : List Blk} {ids : List Nat}, sameBlks L σ E ids → ∀ (i : Nat) (b : Blk), E[i]? = some b → ∃ j, ids[i]? = some j ∧ L j = some (renB σ b)
  | [], _, _, i, b, hb => by simp at hb
  | _ :: _, [], h, _, _, _ => h.elim
  | c :: r, k :: s, h, i, b, hb => by
    cases i with
    | zero => simp at hb; subst hb; exact ⟨k, rfl, h.1⟩
    | succ i => exact sameBlks_get h.2 i b (by simpa using hb)
theorem hpL_ok {ids : List Nat} {E : List Blk} {σ : Nat → Nat} {m : Nat} (hh : HeapOK w ok L φ) : ∀ {xs ys : List AV} {V V' : List Nat} {q : Prop} {vs : List Value}, hpL L ids xs = some (ys, V, q) → q → keptOK σ ids xs → (∀ i ∈ V, i ∈ V') →
    Hands L E σ V' m → vs.length = xs.length → (∀ (i : Nat) (a : AV) (v : Value), xs[i]? = some a → vs[i]? = some v → R w ok L φ a v) →
    vs.length = ys.length ∧ ∀ (i : Nat) (a : AV) (v : Value), ys[i]? = some a → vs[i]? = some v → R w (fun b o => ok b o ∨ Seen L φ V' b o) (lkE E) (fun i => φ (σ i)) a v
  | [], ys, V, V', q, vs, h, hq, hk, hv, hs, hl, hr => by
    simp only [hpL, Option.some.injEq, Prod.mk.injEq] at h
    obtain ⟨rfl, _⟩ := h
    exact ⟨hl, fun i a v ha => by simp at ha⟩
  | a :: r, ys, V, V', q, [], h, hq, hk, hv, hs, hl, hr => by simp at hl
  | a :: r, ys, V, V', q, u :: us, h, hq, hk, hv, hs, hl, hr => by
    simp only [hpL] at h
    obtain ⟨hk1, hk⟩ := hk
    have tail : ∀ (r' : List AV) (V1 : List Nat) (q1 : Prop), hpL L ids r = some (r', V1, q1) → q1 → keptOK σ ids r → (∀ i ∈ V1, i ∈ V') → us.length = r'.length ∧ ∀ (i : Nat) (a : AV) (v : Value), r'[i]? = some a → us[i]? = some v → R w (fun b o => ok b o ∨ Seen L φ V' b o) (lkE E) (fun i => φ (σ i)) a v :=
      fun r' V1 q1 h1 h2 h3 h4 => hpL_ok hh h1 h2 h3 h4 hs (by simpa using hl) (fun i x v hx hv => hr (i + 1) x v (by simpa using hx) (by simpa using hv))
    have join : ∀ (a' : AV) (r' : List AV), R w (fun b o => ok b o ∨ Seen L φ V' b o) (lkE E) (fun i => φ (σ i)) a' u → (us.length = r'.length ∧ ∀ (i : Nat) (a : AV) (v : Value), r'[i]? = some a → us[i]? = some v → R w (fun b o => ok b o ∨ Seen L φ V' b o) (lkE E) (fun i => φ (σ i)) a v) →
        (u :: us).length = (a' :: r').length ∧ ∀ (i : Nat) (x : AV) (v : Value), (a' :: r')[i]? = some x → (u :: us)[i]? = some v → R w (fun b o => ok b o ∨ Seen L φ V' b o) (lkE E) (fun i => φ (σ i)) x v := by
      rintro a' r' h1 ⟨h2, h3⟩
      refine ⟨by simp [h2], fun i x v hx hv => ?_⟩
      cases i with
      | zero => simp at hx hv; subst hx; subst hv; exact h1
      | succ i => exact h3 i x v (by simpa using hx) (by simpa using hv)
    unfold hpJoin at h
    split at h <;> simp only [Option.some.injEq, reduceCtorEq, Prod.mk.injEq] at h
    rename_i a' i1 q1 r' V1 s1 ha hr'
    obtain ⟨rfl, rfl, rfl⟩ := h
    cases hal : allIds ids (pids a) with
    | true =>
      rw [hal] at ha hk1
      simp only [hpArg, Option.some.injEq, Prod.mk.injEq] at ha
      obtain ⟨rfl, rfl, _⟩ := ha
      refine join _ _ ?_ (tail r' V1 s1 hr' hq.2 hk (fun i hi => hv i (List.mem_append_right _ hi)))
      exact R.unren σ (fun i b hb => let ⟨b', h1, h2⟩ := hs.back i b hb; ⟨b', h1, h2, rfl⟩) (fun _ _ h => .inl h) (hr 0 a u rfl rfl) _ (Eq.symm hk1)
    | false =>
      rw [hal] at ha
      simp only [hpArg] at ha
      refine join _ _ (.pure _ _ (purA_ok hh ha hq.1 (hr 0 a u rfl rfl) (fun _ _ h => .inl h) (fun b o ⟨id, hid, hrest⟩ => .inr ⟨id, hv _ (List.mem_append_left _ hid), hrest⟩))) (tail r' V1 s1 hr' hq.2 hk (fun i hi => hv i (List.mem_append_right _ hi)))
theorem evCallH_ok {C : Tbl} (hC : TblOK P C) {w0 : World} {X : Nat → Prop} {Lst : List (Nat × Blk)} {nb f : Nat} {xs : List AV} {todo : List Nat} {u : List (Nat × Blk)} {vs : List Value} (hL : L = lkB Lst)
    (ho : evCallH C L nb f xs todo = some (v', u, p)) (hp : p) (hh : HeapOK w ok L φ) (hl : vs.length = xs.length)
    (hr : ∀ (i : Nat) (a : AV) (v : Value), xs[i]? = some a → vs[i]? = some v → R w ok L φ a v) :
    CallsX P f vs w fun e w' => ∃ v ok' φ', e = .returned v ∧ Ext w0 X L ok φ w (lkB (u ++ Lst)) ok' φ' w' ∧ R w' ok' (lkB (u ++ Lst)) φ' v' v := by
  unfold evCallH at ho
  generalize reach L 16 todo [] = ids at ho
  unfold callHi callHa at ho
  split at ho
  · rename_i ys V q hpur
    unfold callHb at ho
    split at ho
    · rename_i E' res p' hc
      simp only [Option.some.injEq, Prod.mk.injEq] at ho
      obtain ⟨rfl, rfl, rfl⟩ := ho
      obtain ⟨hq, hp', hk, hsb, hnd, hap, hle, hfr⟩ := hp
      have hspec := hC f _ ys E' res p' hc
      obtain ⟨hdead, hnew⟩ := freshIds_spec hfr
      have hlen := sameBlks_len hsb
      have hnd' := noDup_iff hnd
      have slo : ∀ i j, ids[i]? = some j → sigH ids nb E'.length i = j := fun i j hj => by
        have hi := (List.getElem?_eq_some_iff.1 hj).1
        simp [sigH, hi, hj, List.getD_eq_getElem?_getD] 
        have := (List.getElem?_eq_some_iff.1 hj).2
        simpa using this
      have live : ∀ i, i < ids.length → ∃ b, L (sigH ids nb E'.length i) = some b := fun i hi => by
        obtain ⟨j, h1, h2⟩ := sameBlks_get hsb i _ (List.getElem?_eq_getElem (by omega))
        exact ⟨_, by rw [slo i j h1]; exact h2⟩
      have shi : ∀ i, ids.length ≤ i → i < E'.length → sigH ids nb E'.length i = nb + (i - ids.length) ∧ L (nb + (i - ids.length)) = none := fun i h1 h2 => by
        refine ⟨by simp [sigH, Nat.not_lt.2 h1, h2], hnew _ (Nat.zero_le _) (by simp; omega)⟩
      have hs : Hands L (handE L ids ids) (sigH ids nb E'.length) V E'.length := by
        refine ⟨fun i b hb => ?_, fun i hi => ?_, fun i j hi hj e => ?_, by omega⟩
        · obtain ⟨j, h1, h2⟩ := sameBlks_get hsb i b hb
          rw [slo i j h1]
          exact ⟨h2, fun hm => apartIds_iff hap j hm (List.mem_of_getElem? h1)⟩
        · by_cases hlt : i < E'.length
          · obtain ⟨h1, h2⟩ := shi i (by omega) hlt
            rw [h1]; exact h2
          · simp only [sigH, if_neg (show ¬ i < ids.length by omega), if_neg hlt]; exact hdead
        · rcases Nat.lt_or_ge i ids.length with h1 | h1 <;> rcases Nat.lt_or_ge j ids.length with h2 | h2
          · have e1 := slo i ids[i] (List.getElem?_eq_getElem h1)
            have e2 := slo j ids[j] (List.getElem?_eq_getElem h2)
            rw [e1, e2] at e
            exact (List.getElem_inj hnd').1 e
          · obtain ⟨b, hb⟩ := live i h1
            obtain ⟨h3, h4⟩ := shi j h2 hj
            rw [e, h3, h4] at hb; cases hb
          · obtain ⟨b, hb⟩ := live j h2
            obtain ⟨h3, h4⟩ := shi i h1 hi
            rw [← e, h3, h4] at hb; cases hb
          · obtain ⟨h3, _⟩ := shi i h1 hi
            obtain ⟨h4, _⟩ := shi j h2 hj
            rw [h3, h4] at e; omega
      obtain ⟨g1, g2⟩ := hpL_ok (E := handE L ids ids) (σ := sigH ids nb E'.length) (m := E'.length) (V' := V) hh hpur hq hk (fun _ h => h) hs hl hr
      refine (hspec hp' w (fun b o => ok b o ∨ Seen L φ V b o) (fun i => φ (sigH ids nb E'.length i)) vs (hh.callee hs) g1 g2).mono ?_
      rintro e w' ⟨v, ok', φ', rfl, post⟩
      obtain ⟨g1, g2⟩ := Ext.call (w0 := w0) (X := X) hh hs post
      have hfun : afterL L (sigH ids nb E'.length) V E' = lkB (newBlks (sigH ids nb E'.length) E' 0 ++ (marks L V ++ Lst)) := by
        funext j
        rw [newBlks_lk (sigH ids nb E'.length) j (marks L V ++ Lst) E' 0 (fun a b _ h1 _ h2 e => hs.inj a b (by omega) (by omega) e), marks_lk Lst hL j V]
        simp only [afterL, List.range_eq_range', Nat.sub_zero]
        try rfl
      rw [hfun] at g1 g2
      rw [List.append_assoc]
      exact ⟨v, ok', _, rfl, g1, g2⟩
    · simp at ho
  · simp at ho
theorem evCallP_ok {C : Tbl} (hC : TblOK P C) {w0 : World} {X : Nat → Prop} {Lst : List (Nat × Blk)} {id f : Nat} {xs : List AV} {u : List (Nat × Blk)} {vs : List Value} (hL : L = lkB Lst)
    (ho : evCallP C L id f xs = some (v', u, p)) (hp : p) (hh : HeapOK w ok L φ) (hl : vs.length = xs.length)
    (hr : ∀ (i : Nat) (a : AV) (v : Value), xs[i]? = some a → vs[i]? = some v → R w ok L φ a v) :
    CallsX P f vs w fun e w' => ∃ v ok' φ', e = .returned v ∧ Ext w0 X L ok φ w (lkB (u ++ Lst)) ok' φ' w' ∧ R w' ok' (lkB (u ++ Lst)) φ' v' v := by
  unfold evCallP orH at ho
  split at ho
  · rename_i r h1
    simp only [Option.some.injEq] at ho
    subst ho
    exact evCall1_ok hC hL h1 hp hh hl hr
  · replace ho : @orH (evCallH C L id f xs (midsL xs)) ⟨evCallH C L id f xs (pidsL xs)⟩ = some (v', u, p) := ho
    unfold orH at ho
    split at ho
    · rename_i r h1
      simp only [Option.some.injEq] at ho
      subst ho
      exact evCallH_ok hC hL h1 hp hh hl hr
    · exact evCallH_ok hC hL ho hp hh hl hr
end
end Go.Abs
end
section
set_option linter.unusedVariables false
set_option linter.unusedSimpArgs false
namespace Go.Abs
def guardE (st : St) (all : List Oper) : Option (Nat × Bool) → Option Bool
  | none => some true
  | some (j, want) =>
    match all[j]? with
    | some o => match o.dst with
      | some d => match st.get d with
        | .cond e (.bool b) => some (e && (b == want))
        | .bool b => some (b == want)
        | _ => none
      | none => none
    | none => none
def Stuck (o : Oper) : Prop := False
inductive StepA (P : Program) (C : Tbl) (wr : Bool) (all : List Oper) (o : Oper) (st : St) : AV → List (Nat × Blk) → Prop
  | plain (v : AV) (u : List (Nat × Blk)) (p : Prop) (hg : o.guard = none) (h : evStep P C wr st.lk o.dst st.ev o.op = some (v, u, p)) (hp : p) (hu : ucL st.ev (opnds o.op)) : StepA P C wr all o st v u
  | yes (v : AV) (u : List (Nat × Blk)) (p : Prop) (g : Nat × Bool) (hg : o.guard = some g) (he : guardE st all (some g) = some true) (h : evStep P C wr st.lk o.dst st.ev o.op = some (v, u, p)) (hp : p)
      (hu : ucL st.ev (opnds o.op)) : StepA P C wr all o st (.cond true v) u
  | no (v : AV) (g : Nat × Bool) (hg : o.guard = some g) (he : guardE st all (some g) = some false) : StepA P C wr all o st (.cond false v) []
def Wop (P : Program) (C : Tbl) (wr : Bool) (all : List Oper) (o : Oper) (st : St) (K : St → Prop) : Prop :=
  match o.guard with
  | none => match evStep P C wr st.lk o.dst st.ev o.op with
    | some (v, u, p) => ucL st.ev (opnds o.op) ∧ p ∧ K ((st.upd u).put o.dst v)
    | none => Stuck o
  | some g => match guardE st all (some g) with
    | some e => match evStep P C wr st.lk o.dst st.ev o.op with
      | some (v, [], p) => (e = true → ucL st.ev (opnds o.op) ∧ p) ∧ K (st.put o.dst (.cond e v))
      | some (v, u, p) => (e = true → ucL st.ev (opnds o.op) ∧ p ∧ K ((st.upd u).put o.dst (.cond true v))) ∧ (e = false → K (st.put o.dst (.cond false .any)))
      | none => e = false ∧ K (st.put o.dst (.cond false .any))
    | none => Stuck o
theorem upd_nil (st : St) : st.upd [] = st := rfl
theorem Wop.step {P C wr all o st K} (h : Wop P C wr all o st K) : ∃ v u, StepA P C wr all o st v u ∧ K ((st.upd u).put o.dst v) := by
  unfold Wop at h
  split at h
  · rename_i hg
    split at h
    · rename_i v u p he
      obtain ⟨h1, h2, h3⟩ := h
      exact ⟨v, u, .plain v u p hg he h2 h1, h3⟩
    · exact h.elim
  · rename_i g hg
    split at h
    · rename_i e hge
      split at h
      · rename_i v p he
        obtain ⟨h1, h2⟩ := h
        cases e with
        | true => obtain ⟨h3, h4⟩ := h1 rfl; exact ⟨_, [], .yes v [] p g hg hge he h4 h3, h2⟩
        | false => exact ⟨_, [], .no v g hg hge, h2⟩
      · rename_i v u p hne he
        obtain ⟨h1, h2⟩ := h
        cases e with
        | true => obtain ⟨h3, h4, h5⟩ := h1 rfl; exact ⟨_, u, .yes v u p g hg hge he h4 h3, h5⟩
        | false => exact ⟨_, [], .no .any g hg hge, h2 rfl⟩
      · obtain ⟨h1, h2⟩ := h
        subst h1
        exact ⟨_, [], .no .any g hg hge, h2⟩
    · exact h.elim
section
variable {P : Program} {C : Tbl} {wr : Bool} {N : Nat} {L0 : Nat → Option Blk} {φ0 : Nat → Option Nat} {ok0 : Nat → Nat → Prop} {w0 : World} {st : St} {ok : Nat → Nat → Prop} {φ : Nat → Option Nat}
  {a : Act} {w : World} {o : Oper}
variable {F : Fence} {n : Nat}
theorem Good.fn (h : Good F) (f : FuncId) : F.fn f := by
  rcases h with rfl | ⟨l, rfl⟩ <;> trivial
theorem Good.deep (h : Good F) : F.depth.isSome = true → 1 ≤ n := by
  rcases h with rfl | ⟨l, rfl⟩ <;> exact fun h => by simp [Fence.wide] at h
theorem Good.calls (h : Good F) {f : FuncId} {args : Array Value} {w : World} {Q : Ending → World → Prop} (hc : Calls P f args w Q) : CallsIn F n P f args w Q := by
  rcases h with rfl | ⟨l, rfl⟩
  · exact callsIn_wide.2 hc
  · exact CallsIn.inRound l (callsIn_wide.2 hc)
theorem semAt_plain {r : Option Nat} {o : Oper} {ρ : Operand → Value} (h : ∀ c, o.op ≠ .defer c) : o.semAt r ρ = execOp ρ o := by
  cases r with
  | none => exact Oper.semAt_none ..
  | some l => exact Oper.semAt_some l ρ o h
theorem evStep_defer {L : Nat → Option Blk} {dst : Option Nat} {ρ : Operand → AV} {c : Call} : evStep P C wr L dst ρ (.defer c) = none := rfl
theorem CallsX.upon (hF : Good F) {f : FuncId} {vs : List Value} {Q1 : Ending → World → Prop} {next : Act → World → Prop} {Q : Exit → Act → World → Prop} (h : CallsX P f vs w Q1)
    (hQ : ∀ e w', Q1 e w' → ∃ v, e = .returned v ∧ next (a.put o.dst v) w') : o.uponIn F n P a next Q ((InvF f vs).run P w) := by
  obtain ⟨nx, w', h1, h2⟩ := h
  rw [h1]
  cases nx with
  | enter g args =>
    refine ⟨hF.deep, (hF.calls h2).mono ?_⟩
    intro e w'' he
    obtain ⟨v, rfl, hv⟩ := hQ e w'' he
    exact hv
  | value v =>
    obtain ⟨v', he, hv⟩ := hQ _ _ h2
    cases he
    exact hv
  | round l g tmps assign body =>
    refine ⟨hF.deep, (h2 F hF (n - 1)).mono ?_⟩
    intro e w'' he
    obtain ⟨v, rfl, hv⟩ := hQ e w'' he
    exact hv
  | _ => exact h2.elim
theorem Sim.upd0 (h : Sim N L0 φ0 ok0 w0 st ok φ a w) {dst : Option Nat} (hd : dstOK N dst = true) {v' : AV} {v : Value} (hv : R w ok st.lk φ v' v) :
    Sim N L0 φ0 ok0 w0 (st.put dst v') ok φ (a.put dst v) w := by
  have := h.put (u := []) hd (Ext.refl h.heap) hv
  simpa [upd_nil] using this
theorem evStep_wp (hF : Good F) {v' : AV} {u : List (Nat × Blk)} {p : Prop} (hC : TblOK P C) (h : Sim N L0 φ0 ok0 w0 st ok φ a w) (hd : dstOK N o.dst = true)
    (ho : evStep P C wr st.lk o.dst st.ev o.op = some (v', u, p)) (hp : p) (hu : ucL st.ev (opnds o.op)) {next : Act → World → Prop} {Q : Exit → Act → World → Prop} (vw : AV → AV)
    (hvw : ∀ w' ok' φ' v, R w' ok' (st.upd u).lk φ' v' v → R w' ok' (st.upd u).lk φ' (vw v') v)
    (hn : ∀ ok' φ' a' w', Sim N L0 φ0 ok0 w0 ((st.upd u).put o.dst (vw v')) ok' φ' a' w' → next a' w') : o.wpIn F n P a w next Q := by
  have hR : ∀ x, R w ok st.lk φ (st.ev x) (a.eval x) := h.ev
  refine ⟨fun f _ => hF.fn f, ?_⟩
  rw [semAt_plain (fun c hc => by rw [hc, evStep_defer] at ho; cases ho)]
  unfold evStep at ho
  split at ho
  · rename_i v1 p1 he
    simp only [Option.some.injEq, Prod.mk.injEq] at ho
    obtain ⟨rfl, rfl, rfl⟩ := ho
    obtain ⟨v, h1, h2⟩ := evPure_ok h.heap he hp hR hu
    rw [h1]
    exact hn _ _ _ _ (h.put hd (Ext.refl h.heap) (hvw _ _ _ _ h2))
  · split at ho
    · rename_i v1 p1 he
      simp only [Option.some.injEq, Prod.mk.injEq] at ho
      obtain ⟨rfl, rfl, rfl⟩ := ho
      obtain ⟨v, h1, h2⟩ := evRead_ok he hp h.heap hR hu
      rw [h1]
      exact hn _ _ _ _ (h.put hd (Ext.refl h.heap) (hvw _ _ _ _ h2))
    · split at ho
      · rename_i v1 i1 b1 p1 he
        simp only [Option.some.injEq, Prod.mk.injEq] at ho
        obtain ⟨rfl, rfl, rfl⟩ := ho
        obtain ⟨n, v, w', φ', h1, h2, h3, h4⟩ := evEff_ok (w0 := w0) (X := fun b => ∃ i, φ0 i = some b) he hp h.heap h.frame.size hR hu
        rw [h1]
        have e : (st.upd [(i1, b1)]).lk = updL st.lk i1 b1 := lk_upd1 st i1 b1
        rw [← e] at h3 h4
        rcases h2 with rfl | ⟨rfl, rfl⟩
        · exact hn _ _ _ _ (h.put hd h3 (hvw _ _ _ _ h4))
        · exact hn _ _ _ _ (h.put hd h3 (hvw _ _ _ _ h4))
      · -- a call
        unfold evCall at ho
        split at ho
        · rename_i g args ats hop
          split at ho
          · rename_i f k cs hg
            split at ho
            · cases ho
            rename_i hyl
            have hgr := (hR g).un ((ucL_mem hu) g (by simp [opnds, hop]))
            rw [hg] at hgr
            obtain ⟨us, hgv, hul, hur⟩ : ∃ us : List Value, a.eval g = .func (.func f) (us.take k).toArray (us.drop k).toArray ∧ us.length = cs.length ∧ (∀ (i : Nat) (x : AV) (v : Value), cs[i]? = some x → us[i]? = some v → R w ok st.lk φ x v) := by
              generalize a.eval g = gv at hgr
              cases hgr with
              | pure _ _ h => cases h with | clo _ _ _ us hl h => exact ⟨us, rfl, hl, fun i x v hx hv => .pure _ _ (h i x v hx hv)⟩
              | clo _ _ _ us hl h => exact ⟨us, rfl, hl, h⟩
            have hcalls := evCallP_ok (w0 := w0) (X := fun b => ∃ i, φ0 i = some b) (vs := us.take k ++ (args.toList.map a.eval ++ us.drop k)) hC (L := st.lk) (Lst := st.L) rfl ho hp h.heap (by simp [hul]) (fun i x v hx hv => by
              rw [List.getElem?_append] at hx hv
              have hlen : (us.take k).length = (cs.take k).length := by simp [hul]
              rw [hlen] at hv
              split at hx
              · rename_i hlt
                rw [if_pos hlt] at hv
                rw [List.getElem?_take] at hx hv
                split at hx
                · rename_i hk
                  rw [if_pos hk] at hv
                  exact hur _ _ _ hx hv
                · simp at hx
              rename_i hge
              rw [if_neg hge] at hv
              rw [List.getElem?_append] at hx hv
              simp only [List.length_map] at hx hv
              split at hx
              · rename_i hlt
                rw [if_pos hlt] at hv
                simp only [List.getElem?_map, Option.map_eq_some_iff] at hx hv
                obtain ⟨y, hy, rfl⟩ := hx
                obtain ⟨z, hz, rfl⟩ := hv
                rw [hy] at hz; cases hz
                exact (hR y).un ((ucL_mem hu) y (by simp only [opnds, hop, List.mem_append]; exact .inr (List.mem_of_getElem? hy)))
              · rename_i hlt
                rw [if_neg hlt] at hv
                rw [List.getElem?_drop] at hx hv
                exact hur _ _ _ hx hv)
            have hrun : (execOp a.eval o).run P w = (InvF f (us.take k ++ (args.toList.map a.eval ++ us.drop k))).run P w := by
              have e1 : (us.take k).toArray ++ (args.map a.eval) ++ (us.drop k).toArray = (us.take k ++ (args.toList.map a.eval ++ us.drop k)).toArray := by apply Array.ext'; simp
              simp only [execOp, hop, resolve, hgv, Deferred.ofValue, Sem.run_bind, Sem.run_pure, Result.andThen_ok, invoke, Array.empty_append]
              rw [e1]
              simp only [InvF, if_neg hyl]
            rw [hrun]
            refine hcalls.upon hF ?_
            rintro e w' ⟨v, ok', φ', rfl, h3, h4⟩
            exact ⟨v, rfl, hn _ _ _ _ (h.put hd h3 (hvw _ _ _ _ h4))⟩
          · rename_i id' hg
            have hgr := (hR g).un ((ucL_mem hu) g (by simp [opnds, hop]))
            rw [hg] at hgr
            obtain ⟨b, hgv⟩ : ∃ b, a.eval g = .func (.yield b) #[] #[] := by
              generalize a.eval g = gv at hgr
              cases hgr with
              | pure _ _ h => cases h
              | yld _ _ _ _ _ b => exact ⟨b, rfl⟩
            have hcalls := evCallP_ok (w0 := w0) (X := fun b => ∃ i, φ0 i = some b) (vs := a.eval g :: args.toList.map a.eval) hC (L := st.lk) (Lst := st.L) rfl ho hp h.heap (by simp) (fun i x v hx hv => by
              cases i with
              | zero => simp at hx hv; subst hx; subst hv; exact hgr
              | succ i =>
                simp only [List.getElem?_cons_succ, List.getElem?_map, Option.map_eq_some_iff] at hx hv
                obtain ⟨y, hy, rfl⟩ := hx
                obtain ⟨z, hz, rfl⟩ := hv
                rw [hy] at hz; cases hz
                exact (hR y).un ((ucL_mem hu) y (by simp only [opnds, hop, List.mem_append]; exact .inr (List.mem_of_getElem? hy))))
            have hrun : (execOp a.eval o).run P w = (InvF yldF (a.eval g :: args.toList.map a.eval)).run P w := by
              have e1 : (args.map a.eval) = (args.toList.map a.eval).toArray := by apply Array.ext'; simp
              simp only [execOp, hop, resolve, hgv, Deferred.ofValue, Sem.run_bind, Sem.run_pure, Result.andThen_ok, invoke, Array.empty_append, Array.append_empty]
              rw [e1]
              simp only [InvF, if_true]
            rw [hrun]
            refine hcalls.upon hF ?_
            rintro e w' ⟨v, ok', φ', rfl, h3, h4⟩
            exact ⟨v, rfl, hn _ _ _ _ (h.put hd h3 (hvw _ _ _ _ h4))⟩
          · simp at ho
        · simp at ho
theorem guardE_ok {all : List Oper} {g : Nat × Bool} {e : Bool} (h : Sim N L0 φ0 ok0 w0 st ok φ a w) (hg : o.guard = some g) (he : guardE st all (some g) = some e) {ops : Array Oper} (hall : ops.toList = all) :
    Region.wanted o (yielded ops a.tmps) = e := by
  obtain ⟨j, want⟩ := g
  simp only [guardE] at he
  split at he
  · rename_i oj hj
    split at he
    · rename_i d hd
      have hj' : ops[j]? = some oj := by rw [← hall] at hj; simpa using hj
      have hslot := h.slots d
      have key : ∀ v, a.tmps.getD d undef = v → v ≠ undef → a.tmps[d]? = some v := by
        intro v hv hne
        by_cases hlt : d < a.tmps.size
        · simp [Array.getD, hlt] at hv
          simp [hlt, hv]
        · simp [Array.getD, hlt] at hv
          exact absurd hv.symm hne
      split at he
      · rename_i e1 b hst
        simp only [Option.some.injEq] at he
        rw [hst] at hslot
        cases e1 with
        | true =>
          have hb := (hslot.un rfl).boolInv
          have := key _ hb (by simp [undef])
          simp [Region.wanted, hg, yielded, hj', hd, this, ← he]
        | false =>
          have hv : a.tmps.getD d undef = undef := by
            generalize a.tmps.getD d undef = vv at hslot
            cases hslot with | pure _ _ h => cases h; rfl
          have hno : ∀ b : Bool, a.tmps[d]? ≠ some (.bool b) := by
            intro b hb
            have hlt := (Array.getElem?_eq_some_iff.1 hb).1
            have : a.tmps.getD d undef = .bool b := by simp [Array.getD, hlt]; have := (Array.getElem?_eq_some_iff.1 hb).2; exact this
            rw [hv] at this; simp [undef] at this
          have hy : yielded ops a.tmps j = none := by
            simp only [yielded, hj', hd, Option.bind_some]
          simp only [Region.wanted, hg, hy, ← he, Bool.false_and]
          try rfl
      · rename_i b hst
        simp only [Option.some.injEq] at he
        rw [hst] at hslot
        have hb := hslot.boolInv
        have := key _ hb (by simp [undef])
        simp [Region.wanted, hg, yielded, hj', hd, this, ← he]
      · simp at he
    · simp at he
  · simp at he
theorem StepA.wpOp (hF : Good F) {all : List Oper} {v : AV} {u : List (Nat × Blk)} (hC : TblOK P C) (h : Sim N L0 φ0 ok0 w0 st ok φ a w) (hd : dstOK N o.dst = true) (hs : StepA P C wr all o st v u)
    {ops : Array Oper} (hall : ops.toList = all) {next : Act → World → Prop} {Q : Exit → Act → World → Prop}
    (hn : ∀ ok' φ' a' w', Sim N L0 φ0 ok0 w0 ((st.upd u).put o.dst v) ok' φ' a' w' → next a' w') :
    if Region.wanted o (yielded ops a.tmps) then o.wpIn F n P a w next Q else (∀ f, o.about P w a.eval = some f → F.fn f) ∧ next (a.put o.dst undef) w := by
  cases hs with
  | plain _ _ p hg he hp hu =>
    rw [if_pos (by simp [Region.wanted, hg])]
    exact evStep_wp hF hC h hd he hp hu id (fun _ _ _ _ h => h) hn
  | yes v _ p g hg hge he hp hu =>
    rw [guardE_ok h hg hge hall, if_pos rfl]
    exact evStep_wp hF hC h hd he hp hu (AV.cond true) (fun _ _ _ _ h => .condT _ _ h) hn
  | no v g hg hge =>
    rw [guardE_ok h hg hge hall, if_neg (by simp)]
    exact ⟨fun f _ => hF.fn f, hn _ _ _ _ (h.upd0 hd (.pure _ _ (.condF v)))⟩
def Wops (P : Program) (C : Tbl) (wr : Bool) (all : List Oper) : List Oper → St → (St → Prop) → Prop
  | [], st, Q => Q st
  | o :: r, st, Q => Wop P C wr all o st fun st' => Wops P C wr all r st' Q
def dstsOK (N : Nat) (ops : List Oper) : Bool := ops.all fun o => dstOK N o.dst
theorem Wops.wpList (hF : Good F) {all : List Oper} {ops : Array Oper} (hall : ops.toList = all) (hC : TblOK P C) {Q : St → Prop} {Q' : Exit → Act → World → Prop} : ∀ (l : List Oper) (st : St) (ok : Nat → Nat → Prop) (φ : Nat → Option Nat) (a : Act) (w : World),
    dstsOK N l = true → Wops P C wr all l st Q → Sim N L0 φ0 ok0 w0 st ok φ a w → (∀ st' ok' φ' a' w', Q st' → Sim N L0 φ0 ok0 w0 st' ok' φ' a' w' → Q' .normal a' w') → wpListIn F n P ops Q' l a w
  | [], st, ok, φ, a, w, _, hW, hS, hQ => hQ _ _ _ _ _ hW hS
  | o :: r, st, ok, φ, a, w, hd, hW, hS, hQ => by
    simp only [dstsOK, List.all_cons, Bool.and_eq_true] at hd
    obtain ⟨v, u, h1, h2⟩ := Wop.step hW
    refine wpListIn_step fun K hK => h1.wpOp hF hC hS hd.1 hall fun ok' φ' a' w' hS' => hK _ _ ?_
    exact Wops.wpList hF hall hC r _ ok' φ' a' w' hd.2 h2 hS' hQ
end
end Go.Abs
set_option linter.unusedVariables false
set_option linter.unusedSimpArgs false
namespace Go.Abs
def isStrT (P : Program) (t : TypeId) : Bool := match P.underlying t with | some .string => true | _ => false
def isArrT (P : Program) (t : TypeId) : Bool := match P.underlying t with | some (.array ..) => true | _ => false
def clsN (P : Program) : Op → Bool
  | .binOp _ t _ _ _ => !isPtrT P t
  | .move _ | .assign _ | .pick .. | .unOp .. | .index .. | .field .. | .fieldAddr .. | .extract .. | .build .. | .makeFunc .. | .nilCheck _ => true
  | .call { callee := .builtin .max, .. } | .call { callee := .builtin .min, .. } => true
  | .call { callee := .builtin .len, argTypes, .. } => match argTypes.toList with | [t] => isStrT P t | _ => false
  | .slice t _ lo hi mx => isStrT P t || (isArrT P t && (lo.isNone && (hi.isNone && mx.isNone)))
  | _ => false
theorem rdSlice_str {P L t x lo hi mx} (h : isStrT P t = true) : rdSlice P L t x lo hi mx = none := by
  unfold isStrT at h
  split at h
  · rename_i hu
    unfold rdSlice
    split <;> simp [hu]
  · cases h
theorem rdSlice_arr {P L t x} (h : isArrT P t = true) : rdSlice P L t x none none none = none := by
  unfold isArrT at h
  split at h
  · rename_i hu
    unfold rdSlice
    split
    · simp [hu]
    · simp only [hu]
      split <;> simp_all
    · rfl
  · cases h
theorem rdLen_str {P L t x} (h : isStrT P t = true) : rdLen P L t x = none := by
  unfold isStrT at h
  split at h
  · rename_i hu
    unfold rdLen
    split <;> simp [hu]
  · cases h
theorem clsN_step {P C wr L L' dst ρ op} (h : clsN P op = true) : evStep P C wr L dst ρ op = evStep P C wr L' dst ρ op := by
  cases op <;> try (simp [clsN] at h; done)
  case call c =>
    obtain ⟨cal, args, ats⟩ := c
    cases cal <;> try (simp [clsN] at h; done)
    rename_i b
    cases b <;> try (simp [clsN] at h; done)
    case len =>
      simp only [clsN] at h
      split at h
      · rename_i t ht
        simp only [evStep, evRead, evEff, evCall, ht]
        cases args.toList with
        | nil => simp
        | cons x r => cases r with
          | nil => simp [rdLen_str h]
          | cons y r => simp
      · cases h
    all_goals simp [evStep, evRead, evEff, evCall]
  case slice t x lo hi mx =>
    simp only [clsN, Bool.or_eq_true, Bool.and_eq_true, Option.isNone_iff_eq_none] at h
    rcases h with h | ⟨h, rfl, rfl, rfl⟩
    · simp [evStep, evRead, evEff, evCall, rdSlice_str h]
    · simp [evStep, evRead, evEff, evCall, unO, rdSlice_arr h]
  case binOp op t x y yt =>
    simp only [clsN, Bool.not_eq_true'] at h
    simp [evStep, evRead, evEff, evCall, rdPeq_none h]
  all_goals simp [evStep, evRead, evEff, evCall]
theorem clsN_nil {P C wr L dst ρ op v u p} (h : clsN P op = true) (he : evStep P C wr L dst ρ op = some (v, u, p)) : u = [] := by
  cases op <;> try (simp [clsN] at h; done)
  case call c =>
    obtain ⟨cal, args, ats⟩ := c
    cases cal <;> try (simp [clsN] at h; done)
    rename_i b
    cases b <;> try (simp [clsN] at h; done)
    case len =>
      simp only [evStep] at he
      split at he
      · simp at he; first | exact he.2.1 | exact he.2.1.symm
      · split at he
        · simp at he; first | exact he.2.1 | exact he.2.1.symm
        · simp [evEff, evCall] at he
    all_goals (simp only [evStep, evRead, evEff, evCall] at he; split at he <;> simp at he; first | exact he.2.1 | exact he.2.1.symm)
  case slice t x lo hi mx =>
    simp only [evStep] at he
    split at he
    · simp at he; first | exact he.2.1 | exact he.2.1.symm
    · split at he
      · simp at he; first | exact he.2.1 | exact he.2.1.symm
      · simp [evEff, evCall] at he
  case binOp op t x y yt =>
    simp only [clsN, Bool.not_eq_true'] at h
    simp only [evStep, evRead, evEff, evCall, rdPeq_none h] at he
    split at he <;> simp at he; first | exact he.2.1 | exact he.2.1.symm
  all_goals (simp only [evStep, evRead, evEff, evCall] at he; split at he <;> simp at he; first | exact he.2.1 | exact he.2.1.symm)
theorem unO_congr {ρ ρ' : Operand → AV} {x : Option Operand} (h : ∀ y ∈ x.toList, ρ y = ρ' y) : unO ρ x = unO ρ' x := by
  cases x with
  | none => rfl
  | some y => simp [unO, h y (by simp)]
theorem evStep_congr {P C wr L dst} {ρ ρ' : Operand → AV} {op : Op} (h : ∀ x ∈ op.operands, ρ x = ρ' x) : evStep P C wr L dst ρ op = evStep P C wr L dst ρ' op := by
  have mapc : ∀ {α : Type} (f : AV → α) (l : List Operand), (∀ x ∈ l, ρ x = ρ' x) → (l.map fun x => f (ρ x)) = l.map fun x => f (ρ' x) := fun f l hl =>
    List.map_congr_left fun x hx => by rw [hl x hx]
  have pairs : ∀ ps : Array (Nat × Operand), (∀ x ∈ (ps.toList.map (·.2)), ρ x = ρ' x) → (ps.toList.map fun p => (p.1, (ρ p.2).un)) = ps.toList.map fun p => (p.1, (ρ' p.2).un) := fun ps hp =>
    List.map_congr_left fun p hm => by rw [hp p.2 (List.mem_map.2 ⟨p, hm, rfl⟩)]
  cases op <;> simp only [Op.operands] at h <;> try (simp [evStep, evPure, evRead, evEff, evCall]; done)
  case move x => simp [evStep, evPure, h x (by simp)]
  case assign x => simp [evStep, evPure, h x (by simp)]
  case makeMap t r => cases r <;> simp [evStep, evPure, evRead, evEff, evCall]
  case lookup t x k b => cases b <;> simp [evStep, evPure, evRead, evEff, evCall, h x (by simp), h k (by simp)]
  case mapUpdate t x k y => simp [evStep, evPure, evRead, evEff, evCall, h x (by simp), h k (by simp), h y (by simp)]
  case makeInterface t x => simp [evStep, evPure, evRead, evEff, evCall, h x (by simp)]
  case typeAssert x xT t b => cases b <;> simp [evStep, evPure, evRead, evEff, evCall, h x (by simp)]
  case pick c a b => simp [evStep, evPure, evRead, evEff, evCall, h c (by simp), h a (by simp), h b (by simp)]
  case box t x => simp [evStep, evPure, evRead, evEff, evCall, h x (by simp)]
  case build t ps => simp only [evStep, evPure, evRead, evEff, evCall]; rw [pairs ps fun x hx => h x (by simpa using hx)]
  case buildSlice t n ps => simp only [evStep, evPure, evRead, evEff, evCall]; rw [pairs ps fun x hx => h x (by simpa using hx)]
  case load t x => simp [evStep, evPure, evRead, evEff, evCall, h x (by simp)]
  case store t x y => simp [evStep, evPure, evRead, evEff, evCall, h x (by simp), h y (by simp)]
  case nilCheck x => simp [evStep, evPure, evRead, evEff, evCall, h x (by simp)]
  case binOp op t x y yt => simp [evStep, evPure, evRead, evEff, evCall, h x (by simp), h y (by simp)]
  case unOp op t x => simp [evStep, evPure, evRead, evEff, evCall, h x (by simp)]
  case convert s d x => simp [evStep, evPure, evRead, evEff, evCall, h x (by simp)]
  case makeFunc fn fst cs =>
    cases fn <;> simp only [evStep, evPure, evRead, evEff, evCall]
    rw [mapc AV.un (fst.toList ++ cs.toList) fun x hx => h x (by simpa [Array.mem_append] using hx)]
  case makeSlice t l c => simp [evStep, evPure, evRead, evEff, evCall, h l (by simp), h c (by simp)]
  case slice t x lo hi mx =>
    simp only [Array.mem_append] at h
    have h1 := unO_congr (x := lo) (fun y hy => h y (.inl (.inl (.inr (by cases lo <;> simp_all)))))
    have h2 := unO_congr (x := hi) (fun y hy => h y (.inl (.inr (by cases hi <;> simp_all))))
    have h3 := unO_congr (x := mx) (fun y hy => h y (.inr (by cases mx <;> simp_all)))
    simp [evStep, evPure, evRead, evEff, evCall, h x (.inl (.inl (.inl (by simp)))), h1, h2, h3]
  case fieldAddr t x f => simp [evStep, evPure, evRead, evEff, evCall, h x (by simp)]
  case field t x f => simp [evStep, evPure, evRead, evEff, evCall, h x (by simp)]
  case indexAddr t x i => simp [evStep, evPure, evRead, evEff, evCall, h x (by simp), h i (by simp)]
  case index t x i => simp [evStep, evPure, evRead, evEff, evCall, h x (by simp), h i (by simp)]
  case range t x => simp [evStep, evPure, evRead, evEff, evCall, h x (by simp)]
  case next x b => cases b <;> simp [evStep, evPure, evRead, evEff, evCall, h x (by simp)]
  case extract x i => simp [evStep, evPure, evRead, evEff, evCall, h x (by simp)]
  case call c =>
    obtain ⟨cal, args, ats⟩ := c
    simp only [Call.operands, Array.mem_append] at h
    have hargs : ∀ x ∈ args.toList, ρ x = ρ' x := fun x hx => h x (.inr (by simpa using hx))
    have hm := mapc AV.un args.toList hargs
    cases cal with
    | value g =>
      have hg := h g (.inl (by simp))
      simp [evStep, evPure, evRead, evEff, evCall, hg, hm]
    | invoke r m => simp [evStep, evPure, evRead, evEff, evCall]
    | builtin b =>
      have two : ∀ {x y}, args.toList = [x, y] → ρ x = ρ' x ∧ ρ y = ρ' y := fun e => ⟨hargs _ (by rw [e]; simp), hargs _ (by rw [e]; simp)⟩
      have one : ∀ {x}, args.toList = [x] → ρ x = ρ' x := fun e => hargs _ (by rw [e]; simp)
      have hr : evRead P L ρ (.call ⟨.builtin b, args, ats⟩) = evRead P L ρ' (.call ⟨.builtin b, args, ats⟩) := by
        cases b <;> simp only [evRead]
        case unsafeSliceData =>
          split
          · rename_i x hx; rw [one hx]
          · rfl
        split
        · rename_i t x ht hx; rw [one hx]
        · rfl
      have hef : evEff P L (idOf dst) ρ (.call ⟨.builtin b, args, ats⟩) = evEff P L (idOf dst) ρ' (.call ⟨.builtin b, args, ats⟩) := by
        cases b <;> simp only [evEff]
        case clear =>
          split
          · rename_i t x ht hx; rw [one hx]
          · rfl
        all_goals
          split
          · rename_i t u x y ht hx; rw [(two hx).1, (two hx).2]
          · rfl
      have hpu : evPure P wr ρ (.call ⟨.builtin b, args, ats⟩) = evPure P wr ρ' (.call ⟨.builtin b, args, ats⟩) := by simp only [evPure]; rw [hm]
      simp only [evStep, hr, hef, hpu, evCall]
def bef1 (acc : List Nat) : List Edge → Nat
  | [] => 0
  | e :: r => bif Region.binds .any e then (2 ^ e.on ||| acc.getD e.on 0) ||| bef1 acc r else bef1 acc r
def befAll : List Oper → List Nat → List Nat
  | [], acc => acc
  | o :: r, acc => befAll r (acc ++ [bef1 acc o.after.toList])
theorem bef1_spec {acc : List Nat} {i : Nat} : ∀ {es : List Edge}, (bef1 acc es).testBit i = true → ∃ e ∈ es, Region.binds .any e = true ∧ (e.on = i ∨ (acc.getD e.on 0).testBit i = true)
  | [], h => by simp [bef1] at h
  | e :: r, h => by
    simp only [bef1] at h
    cases hb : Region.binds .any e with
    | false =>
      rw [hb] at h
      obtain ⟨x, h1, h2⟩ := bef1_spec h
      exact ⟨x, by simp [h1], h2⟩
    | true =>
      rw [hb] at h
      simp only [cond_true, Nat.testBit_or, Bool.or_eq_true, Nat.testBit_two_pow, decide_eq_true_eq] at h
      rcases h with (h | h) | h
      · exact ⟨e, by simp, hb, .inl h⟩
      · exact ⟨e, by simp, hb, .inr h⟩
      · obtain ⟨x, h1, h2⟩ := bef1_spec h
        exact ⟨x, by simp [h1], h2⟩
def BefOK (ops : List Oper) (acc : List Nat) : Prop :=
  ∀ j i, j < acc.length → (acc.getD j 0).testBit i = true → ∃ oj, ops[j]? = some oj ∧ ∃ e ∈ oj.after.toList, Region.binds .any e = true ∧ (e.on = i ∨ (e.on < j ∧ (acc.getD e.on 0).testBit i = true))
theorem befAll_ok (ops : List Oper) (hord : ∀ j oj, ops[j]? = some oj → ∀ e ∈ oj.after.toList, Region.binds .any e = true → e.on < j) :
    ∀ (l : List Oper) (acc : List Nat), (∀ k, l[k]? = ops[acc.length + k]?) → BefOK ops acc → BefOK ops (befAll l acc) ∧ acc.length ≤ (befAll l acc).length
  | [], acc, _, h => ⟨h, Nat.le_refl _⟩
  | o :: r, acc, hl, h => by
    have h0 : ops[acc.length]? = some o := by simpa using (hl 0).symm
    have := befAll_ok ops hord r (acc ++ [bef1 acc o.after.toList]) (fun k => by
      have := hl (k + 1)
      simp only [List.getElem?_cons_succ] at this
      rw [this, List.length_append]
      simp only [List.length_cons, List.length_nil]
      congr 1; omega) (fun j i hj ht => by
        have hget : ∀ k, k < acc.length → (acc ++ [bef1 acc o.after.toList]).getD k 0 = acc.getD k 0 := fun k hk => by
          simp [List.getD_eq_getElem?_getD, List.getElem?_append_left hk]
        by_cases hlt : j < acc.length
        · rw [hget j hlt] at ht
          obtain ⟨oj, h1, e, h2, h3, h4⟩ := h j i hlt ht
          refine ⟨oj, h1, e, h2, h3, ?_⟩
          rcases h4 with h4 | ⟨h4, h5⟩
          · exact .inl h4
          · exact .inr ⟨h4, by rw [hget _ (by omega)]; exact h5⟩
        · have hj' : j = acc.length := by simp at hj; omega
          subst hj'
          have : (acc ++ [bef1 acc o.after.toList]).getD acc.length 0 = bef1 acc o.after.toList := by simp [List.getD_eq_getElem?_getD]
          rw [this] at ht
          obtain ⟨e, h1, h2, h3⟩ := bef1_spec ht
          refine ⟨o, h0, e, h1, h2, ?_⟩
          have hlt := hord _ _ h0 e h1 h2
          rcases h3 with h3 | h3
          · exact .inl h3
          · exact .inr ⟨hlt, by rw [hget _ hlt]; exact h3⟩)
    refine ⟨this.1, ?_⟩
    have h2 := this.2
    rw [List.length_append] at h2
    show acc.length ≤ (befAll r (acc ++ [bef1 acc o.after.toList])).length
    omega
def codesOf : List Nat → Nat → List Nat
  | [], _ => []
  | c :: r, k => match c / 10000 == k + 1 with
    | true => c % 10000 :: codesOf r k
    | false => codesOf r k
def loadOf : Op → Option Nat
  | .load _ (.tmp p) => some p
  | .indexAddr _ (.tmp p) _ => some p
  | .slice _ (.tmp p) _ _ _ => some p
  | .call ⟨.builtin .len, ⟨[.tmp p]⟩, _⟩ => some p
  | _ => none
def onB (B : Nat) (v : AV) : Prop := match v.un with
  | .ptr id .. => id = B
  | .ref id .. => id = B
  | .list .. => True
  | .radr _ => True
  | _ => False
def sameAt (s t : St) : List Nat → Prop
  | [] => True
  | B :: r => s.lk B = t.lk B ∧ sameAt s t r
def noL : Nat → Option Blk := fun _ => none
def callN2 : Option (List Blk × AV × Prop) → Prop
  | some ([], .list .., _) => True
  | some ([], res, _) => scal res = true
  | _ => False
def callN1 (C : Tbl) (f : FuncId) : Option (List AV × List Nat × Prop) → Prop
  | some (ys, [], _) => callN2 (C f [] ys)
  | _ => False
def callNF (C : Tbl) (xs : List AV) : AV → Prop
  | .clo f k cs => callN1 C f (purL noL (cs.take k ++ (xs ++ cs.drop k)))
  | _ => False
def callN (C : Tbl) (st : St) : Op → Prop
  | .call { callee := .value g, args, .. } => callNF C (args.toList.map (fun x => (st.ev x).un)) (st.ev g).un
  | _ => False
def loadB (C : Tbl) (op : Op) (st : St) (B : Nat) : Prop := match loadOf op with
  | some p => onB B (st.get p)
  | none => callN C st op
def loadC (C : Tbl) (op : Op) (st : St) : List Nat → Prop
  | [] => True
  | B :: r => loadB C op st B ∧ loadC C op st r
mutual
theorem purA_no (L : Nat → Option Blk) : ∀ (a : AV) (x : AV × List Nat × Prop), purA noL a = some x → purA L a = some x
  | .agg cs, x, h => by
    simp only [purA] at h ⊢
    split at h
    · rename_i hc; rw [purL_no L cs _ hc]; exact h
    · cases h
  | .tuple cs, x, h => by
    simp only [purA] at h ⊢
    split at h
    · rename_i hc; rw [purL_no L cs _ hc]; exact h
    · cases h
  | .clo f k cs, x, h => by
    simp only [purA] at h ⊢
    split at h
    · rename_i hc; rw [purL_no L cs _ hc]; exact h
    · cases h
  | .cond e v, x, h => by
    simp only [purA] at h ⊢
    first
      | exact h
      | (split at h
         · rename_i hc; rw [purA_no L v _ hc]; exact h
         · cases h)
  | .ref .., x, h => by simp [purA, noL] at h
  | .ptr .., x, h => by simp [purA, noL] at h
  | .any, x, h | .bool _, x, h | .int .., x, h | .str _, x, h | .list .., x, h | .radr _, x, h | .nils, x, h | .nil0, x, h | .nilp, x, h | .nili, x, h | .nilf, x, h => h
  | .iface .., x, h | .mp _, x, h | .it _, x, h | .yld _, x, h | .nxt .., x, h | .own .., x, h => by simp only [purA] at h ⊢; exact h
theorem purL_no (L : Nat → Option Blk) : ∀ (l : List AV) (x : List AV × List Nat × Prop), purL noL l = some x → purL L l = some x
  | [], x, h => h
  | a :: r, x, h => by
    simp only [purL] at h ⊢
    split at h
    · rename_i h1 h2; rw [purA_no L a _ h1, purL_no L r _ h2]; exact h
    · cases h
end
theorem callN_congr {C : Tbl} {P wr L L' dst} {op : Op} {st : St} (h : callN C st op) : evStep P C wr L dst st.ev op = evStep P C wr L' dst st.ev op := by
  unfold callN at h
  split at h
  · rename_i g args ats
    have key : ∀ L, evStep P C wr L dst st.ev (.call ⟨.value g, args, ats⟩) = evCall C L (idOf dst) st.ev (.call ⟨.value g, args, ats⟩) := fun L => by simp only [evStep, evPure, evRead, evEff]
    rw [key, key]
    simp only [evCall]
    unfold callNF at h
    split at h
    · rename_i f k cs hg
      rw [hg]
      simp only
      split
      · rfl
      unfold callN1 at h
      split at h
      · rename_i ys q hp
        unfold callN2 at h
        split at h
        · rename_i z l p hc
          have one : ∀ L, evCallP C L (idOf dst) f (cs.take k ++ (args.toList.map (fun x => (st.ev x).un) ++ cs.drop k)) = some (.list z l, [], q ∧ p ∧ True) := fun L => by
            have e := purL_no L _ _ hp
            simp only [evCallP, evCall1, e, call1a, hc, call1b, scal, call1c, orH, Abs.ren, marks, deadOK]
          rw [one L, one L']
        · rename_i res p hnl hc
          have one : ∀ L, evCallP C L (idOf dst) f (cs.take k ++ (args.toList.map (fun x => (st.ev x).un) ++ cs.drop k)) = some (res, [], q ∧ p) := fun L => by
            have e := purL_no L _ _ hp
            simp only [evCallP, evCall1, e, call1a, hc, call1b, h, call1c, orH]
          rw [one L, one L']
        · exact h.elim
      · exact h.elim
    · exact h.elim
  · exact h.elim
theorem sameAt_mem {s t : St} : ∀ {l : List Nat}, sameAt s t l → ∀ B ∈ l, s.lk B = t.lk B
  | [], _, B, h => by cases h
  | x :: r, hs, B, h => by
    rcases List.mem_cons.1 h with rfl | h
    · exact hs.1
    · exact sameAt_mem hs.2 B h
theorem loadC_mem {C : Tbl} {op : Op} {st : St} : ∀ {l : List Nat}, loadC C op st l → ∀ B ∈ l, loadB C op st B
  | [], _, B, h => by cases h
  | x :: r, hs, B, h => by
    rcases List.mem_cons.1 h with rfl | h
    · exact hs.1
    · exact loadC_mem hs.2 B h
def shareB (ser : List Nat) (i j : Nat) : Bool := (codesOf ser i).any fun B => (codesOf ser j).contains B
theorem load_congr {P C wr L L' dst ρ op p B} (hl : loadOf op = some p) (hb : onB B (ρ (.tmp p))) (hL : L B = L' B) : evStep P C wr L dst ρ op = evStep P C wr L' dst ρ op := by
  unfold loadOf at hl
  split at hl
  · cases hl
    have : rdLoad P L ‹TypeId› (ρ (.tmp p)).un = rdLoad P L' ‹TypeId› (ρ (.tmp p)).un := by
      unfold onB at hb
      split at hb
      · rename_i he; cases hb; rw [he]; exact rdLoad_congr hL
      · rename_i he; cases hb; rw [he]; rfl
      · rename_i he; rw [he]; rfl
      · rename_i he; rw [he]; rfl
      · exact hb.elim
    simp only [evStep, evRead, this, evEff, evCall]
  · cases hl
    rename_i t i
    have : rdIndexAddr P L t (ρ (.tmp p)).un (ρ i).un = rdIndexAddr P L' t (ρ (.tmp p)).un (ρ i).un := by
      unfold onB at hb
      split at hb
      · rename_i he; cases hb; rw [he]
        unfold rdIndexAddr
        split <;> simp_all
      · rename_i he; cases hb; rw [he]
        unfold rdIndexAddr
        split <;> simp_all
      · rename_i he; rw [he]
        unfold rdIndexAddr
        split <;> simp_all
      · rename_i he; rw [he]
        unfold rdIndexAddr
        split <;> simp_all
      · exact hb.elim
    simp only [evStep, evRead, this, evEff, evCall]
  · cases hl
    rename_i t lo hi mx
    have : rdSlice P L t (ρ (.tmp p)).un (unO ρ lo) (unO ρ hi) (unO ρ mx) = rdSlice P L' t (ρ (.tmp p)).un (unO ρ lo) (unO ρ hi) (unO ρ mx) := by
      unfold onB at hb
      split at hb
      · rename_i he; cases hb; rw [he]
        unfold rdSlice
        split <;> simp_all
      · rename_i he; cases hb; rw [he]
        simp only [rdSlice, hL]
      · rename_i he; rw [he]; rfl
      · rename_i he; rw [he]; rfl
      · exact hb.elim
    simp only [evStep, evRead, this, evEff, evCall]
  · cases hl
    have : ∀ t, rdLen P L t (ρ (.tmp p)).un = rdLen P L' t (ρ (.tmp p)).un := fun t => by
      unfold onB at hb
      split at hb
      · rename_i he; rw [he]; rfl
      · rename_i he; cases hb; rw [he]; simp only [rdLen, hL]
      · rename_i he; rw [he]; rfl
      · rename_i he; rw [he]; rfl
      · exact hb.elim
    rename_i ats
    simp only [evStep, evRead, evEff, evCall]
    rcases ats.toList with _ | ⟨t, _ | ⟨t2, r⟩⟩ <;> simp [this]
  · cases hl
theorem loadB_step {P C wr L' dst op st B} (h : loadB C op st B) (hL : L' B = st.lk B) : evStep P C wr L' dst st.ev op = evStep P C wr st.lk dst st.ev op := by
  unfold loadB at h
  split at h
  · rename_i p hp
    exact load_congr hp h hL
  · exact callN_congr h
theorem loadB_same {C op s t B} (h : ∀ x ∈ op.operands, s.ev x = t.ev x) (hl : loadB C op s B) : loadB C op t B := by
  unfold loadB at hl ⊢
  cases hp : loadOf op with
  | some p =>
    rw [hp] at hl
    have h1 := h (.tmp p) (by unfold loadOf at hp; split at hp <;> cases hp <;> simp [Op.operands, Call.operands])
    have h2 : s.get p = t.get p := h1
    show onB B (t.get p)
    rw [← h2]; exact hl
  | none =>
    rw [hp] at hl
    show callN C t op
    replace hl : callN C s op := hl
    unfold callN at hl ⊢
    split at hl
    · rename_i g args ats
      simp only [Op.operands, Call.operands, Array.mem_append] at h
      have hg := h g (.inl (by simp))
      have hm : (args.toList.map fun x => (s.ev x).un) = args.toList.map fun x => (t.ev x).un := List.map_congr_left fun x hx => by rw [h x (.inr (by simpa using hx))]
      simp only [← hg, ← hm]; exact hl
    · exact hl.elim
def drawB (P : Program) (ops : List Oper) (ser : List Nat) : Bool :=
  let b := befAll ops []
  let n := ops.length
  Region.noSelect ops.toArray &&
  (List.range n).all fun j => match ops[j]? with
    | none => true
    | some oj => (oj.after.toList.all fun e => !Region.binds .any e || decide (e.on < j)) &&
      (List.range j).all fun i => (b.getD j 0).testBit i || match ops[i]? with
        | none => true
        | some oi => oi.apart ops.toArray oj && ((!ser.contains i || clsN P oj.op) && (!ser.contains j || clsN P oi.op) || ((ser.contains i != ser.contains j) && shareB ser i j))
def WopQ (P : Program) (C : Tbl) (wr : Bool) (all : List Oper) (o : Oper) (st : St) (K : St → Prop) : Prop :=
  match o.guard with
  | none => match evStep P C wr st.lk o.dst st.ev o.op with
    | some (v, [], p) => ucL st.ev (opnds o.op) ∧ p ∧ K (st.put o.dst v)
    | _ => Stuck o
  | some g => match guardE st all (some g) with
    | some e => match evStep P C wr st.lk o.dst st.ev o.op with
      | some (v, [], p) => (e = true → ucL st.ev (opnds o.op) ∧ p) ∧ K (st.put o.dst (.cond e v))
      | some _ => Stuck o
      | none => e = false ∧ K (st.put o.dst (.cond false .any))
    | none => Stuck o
theorem WopQ.step {P C wr all o st K} (h : WopQ P C wr all o st K) : ∃ v, StepA P C wr all o st v [] ∧ K (st.put o.dst v) := by
  unfold WopQ at h
  split at h
  · rename_i hg
    split at h
    · rename_i v p he
      obtain ⟨h1, h2, h3⟩ := h
      exact ⟨v, .plain v [] p hg he h2 h1, h3⟩
    · exact h.elim
  · rename_i g hg
    split at h
    · rename_i e hge
      split at h
      · rename_i v p he
        obtain ⟨h1, h2⟩ := h
        cases e with
        | true => obtain ⟨h3, h4⟩ := h1 rfl; exact ⟨_, .yes v [] p g hg hge he h4 h3, h2⟩
        | false => exact ⟨_, .no v g hg hge, h2⟩
      · exact h.elim
      · obtain ⟨h1, h2⟩ := h
        subst h1
        exact ⟨_, .no .any g hg hge, h2⟩
    · exact h.elim
def WopsD (P : Program) (C : Tbl) (wr : Bool) (all : List Oper) (ser : List Nat) : List Oper → Nat → St → (St → Prop) → Prop
  | [], _, st, Q => Q st
  | o :: r, k, st, Q =>
    match ser.contains k with
    | true => Wop P C wr all o st fun st' => sameAt st st' (codesOf ser k) ∧ WopsD P C wr all ser r (k + 1) st' Q
    | false => loadC C o.op st (codesOf ser k) ∧ WopQ P C wr all o st fun st' => WopsD P C wr all ser r (k + 1) st' Q
def StEq (s t : St) : Prop := s.get = t.get ∧ s.lk = t.lk
theorem StEq.refl (s : St) : StEq s s := ⟨rfl, rfl⟩
theorem StEq.ev {s t : St} (h : StEq s t) : s.ev = t.ev := by
  funext x; cases x <;> simp [St.ev, h.1]
theorem St.lk_upd (s : St) (u : List (Nat × Blk)) (j : Nat) : (s.upd u).lk j = match lkB u j with | some b => some b | none => s.lk j := by
  have : ∀ (u : List (Nat × Blk)) (l : List (Nat × Blk)), lkB (u ++ l) j = match lkB u j with | some b => some b | none => lkB l j := by
    intro u l
    induction u with
    | nil => simp [lkB]
    | cons x u ih => simp only [List.cons_append, lkB]; split <;> simp_all
  exact this u s.L
theorem St.lk_put (s : St) (d : Option Nat) (v : AV) : (s.put d v).lk = s.lk := by cases d <;> rfl
theorem St.get_upd (s : St) (u : List (Nat × Blk)) : (s.upd u).get = s.get := rfl
theorem St.get_put (s : St) (d : Option Nat) (v : AV) (t : Nat) : (s.put d v).get t = if d = some t then v else s.get t := by
  cases d with
  | none => simp [St.put]
  | some d => simp only [St.put, St.get, lkA, Option.some.injEq]
theorem StEq.next {s t : St} (h : StEq s t) (u : List (Nat × Blk)) (d : Option Nat) (v : AV) : StEq ((s.upd u).put d v) ((t.upd u).put d v) := by
  refine ⟨?_, ?_⟩
  · funext k; rw [St.get_put, St.get_put, St.get_upd, St.get_upd, h.1]
  · rw [St.lk_put, St.lk_put]; funext j; rw [St.lk_upd, St.lk_upd, h.2]
section
variable {P : Program} {C : Tbl} {wr : Bool} {ops : Array Oper} {ser : List Nat}
theorem guardE_eq {s t : St} {all : List Oper} (h : s.get = t.get) (g : Option (Nat × Bool)) : guardE s all g = guardE t all g := by
  cases g with
  | none => rfl
  | some x => simp only [guardE, h]
theorem StepA.eq {all o s t v u} (h : StEq s t) (hs : StepA P C wr all o s v u) : StepA P C wr all o t v u := by
  have e1 := h.ev
  cases hs with
  | plain _ _ p hg he hp hu => exact .plain v u p hg (by rw [← h.2, ← e1]; exact he) hp (by rw [← e1]; exact hu)
  | yes v _ p g hg hge he hp hu => exact .yes v u p g hg (by rw [← guardE_eq h.1]; exact hge) (by rw [← h.2, ← e1]; exact he) hp (by rw [← e1]; exact hu)
  | no v g hg hge => exact .no v g hg (by rw [← guardE_eq h.1]; exact hge)
def Chk (C : Tbl) (ser : List Nat) (i : Nat) (o : Oper) (st : St) (u : List (Nat × Blk)) : Prop :=
  (ser.contains i = false → u = []) ∧ (ser.contains i = true → ∀ B ∈ codesOf ser i, (st.upd u).lk B = st.lk B) ∧
  (ser.contains i = false → ∀ B ∈ codesOf ser i, loadB C o.op st B)
theorem Chk.eq {i o s t u} (h : StEq s t) (hc : Chk C ser i o s u) : Chk C ser i o t u := by
  refine ⟨hc.1, fun hs B hB => ?_, fun hs B hB => ?_⟩
  · have := hc.2.1 hs B hB
    rw [St.lk_upd, ← h.2, ← St.lk_upd]; exact this
  · exact loadB_same (fun x _ => by rw [h.ev]) (hc.2.2 hs B hB)
def AnyA (P : Program) (C : Tbl) (wr : Bool) (ops : Array Oper) (ser : List Nat) (Q : St → Prop) : Nat → Array Bool → St → Prop
  | 0, listed, st => Region.ready .any ops listed = [] ∧ Q st
  | f + 1, listed, st => (Region.ready .any ops listed = [] → Q st) ∧
    ∀ i ∈ Region.ready .any ops listed, ∃ o v u, ops[i]? = some o ∧ StepA P C wr ops.toList o st v u ∧ Chk C ser i o st u ∧
      AnyA P C wr ops ser Q f (listed.setIfInBounds i true) ((st.upd u).put o.dst v)
theorem AnyA.eq {Q : St → Prop} (hQ : ∀ s t, StEq s t → Q s → Q t) : ∀ (f : Nat) (listed : Array Bool) (s t : St), StEq s t → AnyA P C wr ops ser Q f listed s → AnyA P C wr ops ser Q f listed t
  | 0, listed, s, t, he, h => ⟨h.1, hQ _ _ he h.2⟩
  | f + 1, listed, s, t, he, h => ⟨fun h0 => hQ _ _ he (h.1 h0), fun i hi => by
      obtain ⟨o, v, u, h1, h2, h3, h4⟩ := h.2 i hi
      exact ⟨o, v, u, h1, h2.eq he, h3.eq he, AnyA.eq hQ f _ _ _ (he.next u o.dst v) h4⟩⟩
theorem AnyA.wp {F : Fence} {n : Nat} (hF : Good F) {N : Nat} {L0 : Nat → Option Blk} {φ0 : Nat → Option Nat} {ok0 : Nat → Nat → Prop} {w0 : World} (hC : TblOK P C) (hd : dstsOK N ops.toList = true) {Q : St → Prop} {Q' : Exit → Act → World → Prop} :
    ∀ (f : Nat) (listed : Array Bool) (st : St) (ok : Nat → Nat → Prop) (φ : Nat → Option Nat) (a : Act) (w : World), AnyA P C wr ops ser Q f listed st → Sim N L0 φ0 ok0 w0 st ok φ a w →
      (∀ st' ok' φ' a' w', Q st' → Sim N L0 φ0 ok0 w0 st' ok' φ' a' w' → Q' .normal a' w') → wpAnyIn F n P .any ops Q' f listed a w
  | 0, listed, st, ok, φ, a, w, h, hS, hQ => ⟨h.1, hQ _ _ _ _ _ h.2 hS⟩
  | f + 1, listed, st, ok, φ, a, w, h, hS, hQ => by
    refine ⟨fun h0 => hQ _ _ _ _ _ (h.1 h0) hS, fun i hi => ?_⟩
    obtain ⟨o, v, u, h1, h2, _, h4⟩ := h.2 i hi
    have hdo : dstOK N o.dst = true := List.all_eq_true.1 hd o (by
      have := List.mem_of_getElem? (show ops.toList[i]? = some o by simpa using h1)
      exact this)
    unfold wpOpIn
    simp only [h1]
    have key := h2.wpOp hF (n := n) hC hS hdo rfl (Q := Q') (next := wpAnyIn F n P .any ops Q' f (listed.setIfInBounds i true)) (fun ok' φ' a' w' hS' => AnyA.wp hF hC hd f _ _ ok' φ' a' w' h4 hS' hQ)
    split
    · rename_i hw; rw [if_pos hw] at key; exact key
    · rename_i hw; rw [if_neg hw] at key; exact key
theorem ev_put {st : St} {u : List (Nat × Blk)} {d : Option Nat} {v : AV} {x : Operand} (h : ∀ t, d = some t → x ≠ .tmp t) : ((st.upd u).put d v).ev x = st.ev x := by
  cases x with
  | tmp t =>
    simp only [St.ev, St.get_put]
    rw [if_neg (fun e => h t e rfl)]; rfl
  | _ => rfl
theorem looks_op {o : Oper} {d : Nat} (h : d ∉ o.looksAt ops) : ∀ x ∈ o.op.operands, x ≠ .tmp d := by
  intro x hx e
  subst e
  apply h
  simp only [Oper.looksAt, List.mem_append]
  left
  exact List.mem_filterMap.2 ⟨.tmp d, by simpa using hx, rfl⟩
theorem opnds_sub {op : Op} : ∀ x ∈ opnds op, x ∈ op.operands := by
  intro x hx
  cases op <;> simp only [opnds, Op.operands, List.mem_cons, List.mem_nil_iff, or_false, List.mem_append, Option.mem_toList] at hx ⊢ <;> try (simp_all; done)
  case call c =>
    obtain ⟨cal, args, ats⟩ := c
    simp only [Call.operands, Array.mem_append]
    cases cal <;> simp_all
  case slice t y lo hi mx =>
    simp only [Array.mem_append]
    rcases hx with ((hx | hx) | hx) | hx
    · exact .inl (.inl (.inl (by simp [hx])))
    · exact .inl (.inl (.inr (by simp [hx])))
    · exact .inl (.inr (by simp [hx]))
    · exact .inr (by simp [hx])
theorem ucL_congr {ρ ρ' : Operand → AV} : ∀ {l : List Operand}, (∀ x ∈ l, ρ x = ρ' x) → ucL ρ l → ucL ρ' l
  | [], _, h => h
  | x :: r, hl, h => ⟨by rw [← hl x (by simp)]; exact h.1, ucL_congr (fun y hy => hl y (by simp [hy])) h.2⟩
theorem Chk.apart {i : Nat} {o : Oper} {d : Option Nat} {v' : AV} {u' : List (Nat × Blk)} {st : St} {u : List (Nat × Blk)} (hd : ∀ t, d = some t → t ∉ o.looksAt ops) (hL : u' = [] ∨ u = []) :
    Chk C ser i o ((st.upd u').put d v') u ↔ Chk C ser i o st u := by
  have h1 : ∀ B, ((((st.upd u').put d v').upd u).lk B = ((st.upd u').put d v').lk B) ↔ ((st.upd u).lk B = st.lk B) := by
    intro B
    rcases hL with rfl | rfl
    · have e0 : st.upd [] = st := rfl
      rw [St.lk_upd, St.lk_put, e0, St.lk_upd]
    · exact ⟨fun _ => rfl, fun _ => rfl⟩
  have h2 : ∀ x ∈ o.op.operands, ((st.upd u').put d v').ev x = st.ev x := fun x hx => ev_put fun t ht => looks_op (hd t ht) x hx
  exact ⟨fun h => ⟨h.1, fun hs B hB => (h1 B).1 (h.2.1 hs B hB), fun hs B hB => loadB_same h2 (h.2.2 hs B hB)⟩,
    fun h => ⟨h.1, fun hs B hB => (h1 B).2 (h.2.1 hs B hB), fun hs B hB => loadB_same (fun x hx => (h2 x hx).symm) (h.2.2 hs B hB)⟩⟩
theorem StepA.apart {o : Oper} {d : Option Nat} {v' : AV} {u' : List (Nat × Blk)} {st : St} {v : AV} {u : List (Nat × Blk)} (hd : ∀ t, d = some t → t ∉ o.looksAt ops) (hL : u' = [] ∨ clsN P o.op = true ∨ ∃ B, loadB C o.op st B ∧ (st.upd u').lk B = st.lk B) :
    StepA P C wr ops.toList o ((st.upd u').put d v') v u ↔ StepA P C wr ops.toList o st v u := by
  have hev : ∀ x ∈ o.op.operands, ((st.upd u').put d v').ev x = st.ev x := fun x hx => ev_put fun t ht => looks_op (hd t ht) x hx
  have hst : evStep P C wr ((st.upd u').put d v').lk o.dst ((st.upd u').put d v').ev o.op = evStep P C wr st.lk o.dst st.ev o.op := by
    rw [evStep_congr hev, St.lk_put]
    rcases hL with rfl | hL | ⟨B, h1, h3⟩
    · rfl
    · exact clsN_step hL
    · exact loadB_step h1 h3
  have hu : ucL ((st.upd u').put d v').ev (opnds o.op) ↔ ucL st.ev (opnds o.op) :=
    ⟨ucL_congr fun x hx => hev x (opnds_sub x hx), ucL_congr fun x hx => (hev x (opnds_sub x hx)).symm⟩
  have hg : ∀ g, o.guard = some g → guardE ((st.upd u').put d v') ops.toList (some g) = guardE st ops.toList (some g) := by
    rintro ⟨j, want⟩ hg
    simp only [guardE]
    cases hj : ops.toList[j]? with
    | none => rfl
    | some oj =>
      simp only
      cases hdj : oj.dst with
      | none => rfl
      | some t =>
        simp only
        rw [St.get_put, if_neg (fun e => hd t e (by
          simp only [Oper.looksAt, List.mem_append]
          right
          have : ops[j]? = some oj := by simpa using hj
          simp [hg, this, hdj]))]
        rfl
  constructor
  · intro h
    cases h with
    | plain _ _ p hg0 he hp hu0 => exact .plain v u p hg0 (by rw [← hst]; exact he) hp (hu.1 hu0)
    | yes v _ p g hg0 hge he hp hu0 => exact .yes v u p g hg0 (by rw [← hg g hg0]; exact hge) (by rw [← hst]; exact he) hp (hu.1 hu0)
    | no v g hg0 hge => exact .no v g hg0 (by rw [← hg g hg0]; exact hge)
  · intro h
    cases h with
    | plain _ _ p hg0 he hp hu0 => exact .plain v u p hg0 (by rw [hst]; exact he) hp (hu.2 hu0)
    | yes v _ p g hg0 hge he hp hu0 => exact .yes v u p g hg0 (by rw [hg g hg0]; exact hge) (by rw [hst]; exact he) hp (hu.2 hu0)
    | no v g hg0 hge => exact .no v g hg0 (by rw [hg g hg0]; exact hge)
theorem StEq.comm {st : St} {di dj : Option Nat} {vi vj : AV} {ui uj : List (Nat × Blk)} (hd : ∀ t, di = some t → dj ≠ some t) (hu : ui = [] ∨ uj = []) :
    StEq ((((st.upd ui).put di vi).upd uj).put dj vj) ((((st.upd uj).put dj vj).upd ui).put di vi) := by
  refine ⟨?_, ?_⟩
  · funext t
    simp only [St.get_put, St.get_upd]
    by_cases h1 : dj = some t
    · by_cases h2 : di = some t
      · exact absurd h1 (hd t h2)
      · simp [h1, h2]
    · by_cases h2 : di = some t <;> simp [h1, h2]
  · rw [St.lk_put, St.lk_put]
    funext j
    rw [St.lk_upd, St.lk_put, St.lk_upd, St.lk_upd, St.lk_put, St.lk_upd]
    rcases hu with rfl | rfl
    · simp [lkB]
    · simp [lkB]
theorem clsN_StepA {o : Oper} {st : St} {v : AV} {u : List (Nat × Blk)} {all : List Oper} (h : clsN P o.op = true) (hs : StepA P C wr all o st v u) : u = [] := by
  cases hs with
  | plain _ _ p hg he hp hu => exact clsN_nil h he
  | yes v _ p g hg hge he hp hu => exact clsN_nil h he
  | no v g hg hge => rfl
def Closed (ops : Array Oper) (listed : Array Bool) : Prop := ∀ (j : Nat) (oj : Oper), ops[j]? = some oj → listed.getD j false = true → ∀ e ∈ oj.after, Region.binds .any e = true → listed.getD e.on false = true
theorem Closed.set {listed : Array Bool} {i : Nat} (h : Closed ops listed) (hi : i ∈ Region.ready .any ops listed) : Closed ops (listed.setIfInBounds i true) := by
  obtain ⟨_, oi, hoi, hall⟩ := mem_ready.1 hi
  intro j oj hj hl e he hb
  by_cases hij : i = j
  · subst hij
    have : oj = oi := Option.some.inj (hj.symm.trans hoi)
    subst this
    exact getD_set_true (hall e he hb)
  · rw [getD_set_ne false hij] at hl
    exact getD_set_true (h j oj hj hl e he hb)
theorem getD_both' {listed : Array Bool} {i : Nat} (h : listed.getD i true = false) : listed.getD i false = false := by
  rcases Nat.lt_or_ge i listed.size with h' | h'
  · simp [h'] at h ⊢; exact h
  · simp [Array.getElem?_eq_none h'] at h
theorem Closed.anc {listed : Array Bool} {b : List Nat} (h : Closed ops listed) (hb : BefOK ops.toList b) : ∀ (j i : Nat), j < b.length → (b.getD j 0).testBit i = true →
    (∀ oj, ops[j]? = some oj → ∀ e ∈ oj.after, Region.binds .any e = true → listed.getD e.on false = true) → listed.getD i false = true := by
  intro j
  induction j using Nat.strongRecOn with
  | _ j ih =>
    intro i hj ht hdep
    obtain ⟨oj, h1, e, h2, h3, h4⟩ := hb j i hj ht
    have hoj : ops[j]? = some oj := by simpa using h1
    have he := hdep oj hoj e (by simpa using h2) h3
    rcases h4 with h4 | ⟨h4, h5⟩
    · rw [← h4]; exact he
    · exact ih e.on h4 i (by omega) h5 (fun ok hok e' he' hb' => h e.on ok hok he e' he' hb')
theorem anyA_first {Q : St → Prop} (hQ : ∀ s t, StEq s t → Q s → Q t) {b : List Nat} (hbef : BefOK ops.toList b) {i : Nat} {oi : Oper} {v : AV} {u : List (Nat × Blk)} (hi : ops[i]? = some oi)
    (hcomp : ∀ (j : Nat) (oj : Oper), ops[j]? = some oj → i < j → (j < b.length ∧ (b.getD j 0).testBit i = true) ∨ (oi.apart ops oj = true ∧ ((ser.contains i = true → clsN P oj.op = true) ∧ (ser.contains j = true → clsN P oi.op = true) ∨ (ser.contains i ≠ ser.contains j ∧ ∃ B, B ∈ codesOf ser i ∧ B ∈ codesOf ser j)))) :
    ∀ (f : Nat) (listed : Array Bool) (st : St), Closed ops listed → (∀ j, j < i → listed.getD j true = true) → i ∈ Region.ready .any ops listed → StepA P C wr ops.toList oi st v u → Chk C ser i oi st u →
      AnyA P C wr ops ser Q f (listed.setIfInBounds i true) ((st.upd u).put oi.dst v) → AnyA P C wr ops ser Q (f + 1) listed st := by
  intro f
  induction f with
  | zero =>
    intro listed st hcl hlow hr hy hui H
    refine ⟨fun h => (by rw [h] at hr; cases hr), fun j hj => ?_⟩
    by_cases hji : j = i
    · subst hji; exact ⟨oi, v, u, hi, hy, hui, H⟩
    · have := ready_mono hj hji
      rw [H.1] at this
      cases this
  | succ f ih =>
    intro listed st hcl hlow hr hy hui H
    refine ⟨fun h => (by rw [h] at hr; cases hr), fun j hj => ?_⟩
    by_cases hji : j = i
    · subst hji; exact ⟨oi, v, u, hi, hy, hui, H⟩
    · obtain ⟨oj, vj, uj, h1, h2, h3, h4⟩ := H.2 j (ready_mono hj hji)
      obtain ⟨hjun, oj', hoj', hall⟩ := mem_ready.1 hj
      rw [h1] at hoj'; cases hoj'
      have hiun := (mem_ready.1 hr).1
      have hij : i < j := by
        rcases Nat.lt_or_ge j i with h | h
        · rw [hlow j h] at hjun; cases hjun
        · omega
      rcases hcomp j oj h1 hij with ⟨hjb, hanc⟩ | ⟨hap, hs2⟩
      · have := hcl.anc hbef j i hjb hanc (fun ok hok => by rw [h1] at hok; cases hok; exact hall)
        rw [getD_both' hiun] at this
        cases this
      · obtain ⟨a1, a2, a3⟩ := Oper.apart_spec hap
        have hboth : u = [] ∨ uj = [] := by
          rcases hs2 with ⟨hsi, hsj⟩ | ⟨hne, _⟩
          · cases hs : ser.contains i with
            | false => exact .inl (hui.1 hs)
            | true => exact .inr (clsN_StepA (hsi hs) h2)
          · cases hs : ser.contains i with
            | false => exact .inl (hui.1 hs)
            | true => exact .inr (h3.1 (by rw [hs] at hne; cases hs' : ser.contains j with | false => rfl | true => rw [hs'] at hne; exact absurd rfl hne))
        have h3' : Chk C ser j oj st uj := (Chk.apart a1 hboth).1 h3
        have hLi : u = [] ∨ clsN P oj.op = true ∨ ∃ B, loadB C oj.op st B ∧ (st.upd u).lk B = st.lk B := by
          cases hs : ser.contains i with
          | false => exact .inl (hui.1 hs)
          | true =>
            rcases hs2 with ⟨hsi, hsj⟩ | ⟨hne, B, hB1, hB2⟩
            · exact .inr (.inl (hsi hs))
            · have hj0 : ser.contains j = false := by rw [hs] at hne; cases hs' : ser.contains j with | false => rfl | true => rw [hs'] at hne; exact absurd rfl hne
              exact .inr (.inr ⟨B, h3'.2.2 hj0 B hB2, hui.2.1 hs B hB1⟩)
        have hLj : uj = [] ∨ clsN P oi.op = true ∨ ∃ B, loadB C oi.op st B ∧ (st.upd uj).lk B = st.lk B := by
          cases hs : ser.contains j with
          | false => exact .inl (h3.1 hs)
          | true =>
            rcases hs2 with ⟨hsi, hsj⟩ | ⟨hne, B, hB1, hB2⟩
            · exact .inr (.inl (hsj hs))
            · have hi0 : ser.contains i = false := by rw [hs] at hne; cases hs' : ser.contains i with | false => rfl | true => rw [hs'] at hne; exact absurd rfl hne
              exact .inr (.inr ⟨B, hui.2.2 hi0 B hB1, h3'.2.1 hs B hB2⟩)
        have h5 : StepA P C wr ops.toList oj st vj uj := (StepA.apart a1 hLi).1 h2
        have h6 : StepA P C wr ops.toList oi ((st.upd uj).put oj.dst vj) v u := (StepA.apart a3 hLj).2 hy
        have h7 : Chk C ser i oi ((st.upd uj).put oj.dst vj) u := (Chk.apart a3 hboth.symm).2 hui
        refine ⟨oj, vj, uj, h1, h5, h3', ?_⟩
        refine ih (listed.setIfInBounds j true) _ (hcl.set hj) (fun k hk => ?_) (ready_mono hr (Ne.symm hji)) h6 h7 ?_
        · by_cases hjk : j = k
          · omega
          · rw [getD_set_ne true hjk]; exact hlow k hk
        · rw [Array.setIfInBounds_comm _ _ hji]
          exact AnyA.eq hQ _ _ _ _ (StEq.comm a2 hboth) h4
end
end Go.Abs
end
section
set_option linter.unusedVariables false
set_option linter.unusedSimpArgs false
namespace Go.Abs
section
variable {P : Program} {C : Tbl} {wr : Bool} {ops : Array Oper} {ser : List Nat}
theorem drawB_spec (h : drawB P ops.toList ser = true) :
    (∀ j oj, ops.toList[j]? = some oj → ∀ e ∈ oj.after.toList, Region.binds .any e = true → e.on < j) ∧
    ∀ (i j : Nat) (oi oj : Oper), ops[i]? = some oi → ops[j]? = some oj → i < j → ((befAll ops.toList []).getD j 0).testBit i = true ∨
      (oi.apart ops oj = true ∧ ((ser.contains i = true → clsN P oj.op = true) ∧ (ser.contains j = true → clsN P oi.op = true) ∨ (ser.contains i ≠ ser.contains j ∧ ∃ B, B ∈ codesOf ser i ∧ B ∈ codesOf ser j))) := by
  simp only [drawB, Bool.and_eq_true, List.all_eq_true] at h
  obtain ⟨_, h⟩ := h
  refine ⟨fun j oj hj e he hb => ?_, fun i j oi oj hi hj hij => ?_⟩
  · have hlt : j < ops.toList.length := (List.getElem?_eq_some_iff.1 hj).1
    have := h j (List.mem_range.2 hlt)
    rw [hj] at this
    simp only [Bool.and_eq_true, List.all_eq_true] at this
    have := this.1 e he
    simp only [hb, Bool.not_true, Bool.false_or, decide_eq_true_eq] at this
    exact this
  · have hj' : ops.toList[j]? = some oj := by simpa using hj
    have hi' : ops.toList[i]? = some oi := by simpa using hi
    have hlt : j < ops.toList.length := (List.getElem?_eq_some_iff.1 hj').1
    have := h j (List.mem_range.2 hlt)
    rw [hj'] at this
    simp only [Bool.and_eq_true, List.all_eq_true] at this
    have := this.2 i (List.mem_range.2 hij)
    rw [hi'] at this
    simp only [Bool.or_eq_true, Bool.and_eq_true, Array.toArray_toList, Bool.not_eq_true', Bool.not_eq_eq_eq_not, Bool.not_true] at this
    rcases this with this | ⟨h1, ⟨h2, h3⟩ | ⟨h2, h3⟩⟩
    · exact .inl this
    rotate_left
    · refine .inr ⟨h1, .inr ⟨by simpa using h2, ?_⟩⟩
      simp only [shareB, List.any_eq_true, List.contains_eq_mem, decide_eq_true_eq] at h3
      exact h3
    · refine .inr ⟨h1, .inl ⟨fun hs => ?_, fun hs => ?_⟩⟩
      · rcases h2 with h2 | h2
        · rw [hs] at h2; simp at h2
        · exact h2
      · rcases h3 with h3 | h3
        · rw [hs] at h3; simp at h3
        · exact h3
theorem befAll_len : ∀ (l : List Oper) (acc : List Nat), (befAll l acc).length = acc.length + l.length
  | [], acc => by simp [befAll]
  | o :: r, acc => by simp only [befAll, befAll_len r]; simp; omega
theorem WopsD.any {Q : St → Prop} (hQ : ∀ s t, StEq s t → Q s → Q t) (hB : drawB P ops.toList ser = true) : ∀ (l : List Oper) (k : Nat) (listed : Array Bool) (st : St), (∀ j, l[j]? = ops[k + j]?) →
    listed.size = ops.size → (∀ j, j < k → listed.getD j true = true) → (∀ j, j < k → listed.getD j false = true) → (∀ j, k ≤ j → j < ops.size → listed.getD j true = false) → Closed ops listed →
    WopsD P C wr ops.toList ser l k st Q → AnyA P C wr ops ser Q l.length listed st
  | [], k, listed, st, hl, hsz, hlo, hlo', hhi, hcl, h => by
    have hk : ops.size ≤ k := by
      have := hl 0
      simp at this
      exact this
    refine ⟨List.eq_nil_iff_forall_not_mem.2 fun i hi => ?_, h⟩
    obtain ⟨h1, oi, h2, _⟩ := mem_ready.1 hi
    have hi' : i < ops.size := (Array.getElem?_eq_some_iff.1 h2).1
    rw [hlo i (by omega)] at h1
    cases h1
  | o :: l, k, listed, st, hl, hsz, hlo, hlo', hhi, hcl, h => by
    obtain ⟨hord, hcomp⟩ := drawB_spec hB
    have h0 : ops[k]? = some o := by simpa using (hl 0).symm
    have hk : k < ops.size := (Array.getElem?_eq_some_iff.1 h0).1
    have hready : k ∈ Region.ready .any ops listed := mem_ready.2 ⟨hhi k (Nat.le_refl _) hk, o, h0, fun e he hb => hlo' _ (hord k o (by simpa using h0) e (by simpa using he) hb)⟩
    have hstep : ∃ v u, StepA P C wr ops.toList o st v u ∧ Chk C ser k o st u ∧ WopsD P C wr ops.toList ser l (k + 1) ((st.upd u).put o.dst v) Q := by
      simp only [WopsD] at h
      split at h
      · rename_i hs
        obtain ⟨v, u, h1, h2⟩ := Wop.step h
        refine ⟨v, u, h1, ⟨fun hf => (by rw [hs] at hf; cases hf), fun _ B hB => ?_, fun hf => (by rw [hs] at hf; cases hf)⟩, h2.2⟩
        have := sameAt_mem h2.1 B hB
        rw [St.lk_put] at this
        exact this.symm
      · rename_i hs
        obtain ⟨v, h1, h2⟩ := WopQ.step h.2
        exact ⟨v, [], h1, ⟨fun _ => rfl, fun hf => (by rw [hs] at hf; cases hf), fun _ => loadC_mem h.1⟩, h2⟩
    obtain ⟨v, u, h1, h2, h3⟩ := hstep
    have hbef : BefOK ops.toList (befAll ops.toList []) := (befAll_ok ops.toList (fun j oj hj e he hb => hord j oj hj e he hb) ops.toList [] (by simp) (fun j i hj => by simp at hj)).1
    refine anyA_first hQ hbef h0 (fun j oj hj hij => ?_) l.length listed st hcl hlo hready h1 h2 ?_
    · rcases hcomp k j o oj h0 hj hij with h4 | h4
      · refine .inl ⟨?_, h4⟩
        rw [befAll_len]
        have := (Array.getElem?_eq_some_iff.1 hj).1
        simp; omega
      · exact .inr h4
    · refine WopsD.any hQ hB l (k + 1) _ _ (fun j => by have := hl (j + 1); simpa [Nat.add_assoc, Nat.add_comm 1 j] using this) (by simp [hsz]) (fun j hj => ?_) (fun j hj => ?_) (fun j hj hj' => ?_) (hcl.set hready) h3
      · by_cases e : k = j
        · subst e; simp [hsz, hk]
        · rw [getD_set_ne true e]; exact hlo j (by omega)
      · by_cases e : k = j
        · subst e; simp [hsz, hk]
        · rw [getD_set_ne false e]; exact hlo' j (by omega)
      · rw [getD_set_ne true (by omega)]; exact hhi j (by omega) hj'
theorem wp_drawn {F : Fence} {n : Nat} (hF : Good F) {N : Nat} {L0 : Nat → Option Blk} {φ0 : Nat → Option Nat} {ok0 : Nat → Nat → Prop} {w0 : World} {st : St} {ok : Nat → Nat → Prop} {φ : Nat → Option Nat} {a : Act} {w : World} {id : Nat}
    {Q : St → Prop} {Q' : Exit → Act → World → Prop} (hm : P.follows .mixedOrders = true) (hC : TblOK P C) (hd : dstsOK N ops.toList = true) (hB : drawB P ops.toList ser = true) (hQ : ∀ s t, StEq s t → Q s → Q t)
    (h : WopsD P C wr ops.toList ser ops.toList 0 st Q) (hS : Sim N L0 φ0 ok0 w0 st ok φ a w)
    (hn : ∀ st' ok' φ' a' w', Q st' → Sim N L0 φ0 ok0 w0 st' ok' φ' a' w' → Q' .normal a' w') : (Code.region id ops true).wpIn F n P Q' a w := by
  refine wpIn_region_any hm ?_
  have hany := WopsD.any hQ hB ops.toList 0 (Array.replicate ops.size false) st (by simp) (by simp) (fun j hj => by omega) (fun j hj => by omega) (fun j _ hj => by simp [hj]) (fun j oj hj hl => by
    have hlt : j < ops.size := (Array.getElem?_eq_some_iff.1 hj).1
    simp [hlt] at hl) h
  have hS' : Sim N L0 φ0 ok0 w0 st ok φ a { w with drawn := w.drawn + 1 } := by
    have hx : Ext w0 (fun b => ∃ i, φ0 i = some b) st.lk ok φ w st.lk ok φ { w with drawn := w.drawn + 1 } :=
      Ext.quiet hS.heap ⟨rfl, rfl, rfl, Nat.le_refl _, fun _ _ _ => rfl⟩
    exact ⟨fun t => (hS.slots t).keep hx.keeps, hS.size, hS.defers.keep hx.keeps hx.still, hx.heap, hS.kept.trans hx.keeps, hx.frame hS.own hS.frame, hS.own, hS.okDn⟩
  have := AnyA.wp hF (n := n) (N := N) hC hd ops.toList.length _ st ok φ a _ hany hS' hn
  simpa using this
end
mutual
def idsOK (L : Nat → Option Blk) : AV → Prop
  | .ref id _ _ _ => L id ≠ none
  | .ptr id _ _ _ => L id ≠ none
  | .it id => L id ≠ none
  | .mp id => L id ≠ none
  | .yld id => L id ≠ none
  | .agg cs => idsOKL L cs
  | .tuple cs => idsOKL L cs
  | .clo _ _ cs => idsOKL L cs
  | .cond _ v => idsOK L v
  | _ => True
def idsOKL (L : Nat → Option Blk) : List AV → Prop
  | [] => True
  | a :: r => idsOK L a ∧ idsOKL L r
end
theorem idsOKL_get {L : Nat → Option Blk} : ∀ {l : List AV}, idsOKL L l → ∀ (i : Nat) (a : AV), l[i]? = some a → idsOK L a
  | [], _, i, a, h => by simp at h
  | b :: r, hl, i, a, h => by
    cases i with
    | zero => simp at h; subst h; exact hl.1
    | succ i => exact idsOKL_get hl.2 i a (by simpa using h)
def idsOKS (L : Nat → Option Blk) : List (Nat × AV) → Prop
  | [] => True
  | (_, a) :: r => idsOK L a ∧ idsOKS L r
theorem idsOKS_lk {L : Nat → Option Blk} (t : Nat) : ∀ {l : List (Nat × AV)}, idsOKS L l → idsOK L (lkA l t)
  | [], _ => trivial
  | (k, a) :: r, h => by
    simp only [lkA]
    split
    · exact h.1
    · exact idsOKS_lk t h.2
def contOK (L : Nat → Option Blk) (c : List AV) : Prop := pureEl c = true ∨ idsOKL L (c.flatMap AV.cells)
def blkOK (L : Nat → Option Blk) : Blk → Prop
  | .cells _ _ _ c => contOK L c
  | .loop _ _ _ sl => idsOKS L sl
  | _ => True
def slotO4 (L L' : Nat → Option Blk) (v v' : AV) : Prop :=
  (v = v' ∧ idsOK L' v') ∨
  (∃ id sz d, (v = .nils ∨ v = .nil0) ∧ v' = .ref id 0 0 0 ∧ L id = none ∧ L' id = some (.cells sz false d [])) ∨
  (∃ id off len hw sz ro d c, v = .ref id off len hw ∧ L id = some (.cells sz ro d c) ∧ L' id = none ∧ hw = c.length ∧ pureEl c = true ∧ v' = .list sz ((c.drop off).take len)) ∨
  (∃ sz, (v = .nils ∨ v = .nil0) ∧ v' = .list sz [])
def slotOK (L L' : Nat → Option Blk) (v v' : AV) : Prop :=
  slotO4 L L' v v' ∨ ∃ xs ys, v = .agg xs ∧ v' = .agg ys ∧ ys.length = xs.length ∧ ∀ (i : Nat) (x y : AV), xs[i]? = some x → ys[i]? = some y → y = .any ∨ slotO4 L L' x y
def subT (st : St) (L' : Nat → Option Blk) : List (Nat × AV) → Prop
  | [] => True
  | (t, v') :: r => slotOK st.lk L' (st.get t) v' ∧ subT st L' r
def contS (L L' : Nat → Option Blk) (c c' : List AV) : Prop :=
  c'.length = c.length ∧ ∀ (i : Nat) (x x' : AV), c[i]? = some x → c'[i]? = some x' → x'.cells.length = x.cells.length ∧ ∀ (j : Nat) (y y' : AV), x.cells[j]? = some y → x'.cells[j]? = some y' → slotOK L L' y y'
def blkS (L L' : Nat → Option Blk) (id : Nat) (b : Blk) : Prop := ∃ sz ro d c c', L id = some (.cells sz ro d c) ∧ b = .cells sz ro d c' ∧ contS L L' c c'
def subB (L L' : Nat → Option Blk) : List (Nat × Blk) → Prop
  | [] => True
  | (id, b) :: r => ((L id = some b ∧ blkOK L' b) ∨ (L id = none ∧ ∃ sz d, b = .cells sz false d []) ∨ blkS L L' id b) ∧ subB L L' r
def extsOK (L L' : Nat → Option Blk) : Nat → Prop
  | 0 => L defId = none ∨ L' defId = some .defer ∨ L' defId = none ∧ L defId = some .defer
  | m + 1 => L' m = L m ∧ extsOK L L' m
theorem extsOK_def {L L' : Nat → Option Blk} : ∀ {m : Nat}, extsOK L L' m → L defId = none ∨ L' defId = some .defer ∨ L' defId = none ∧ L defId = some .defer
  | 0, h => h
  | m + 1, h => extsOK_def h.2
structure Weak0 (m : Nat) (st st' : St) : Prop where
  slots : subT st st'.lk st'.tmps
  blks : subB st.lk st'.lk st'.L
  exts : extsOK st.lk st'.lk m
theorem subT_get {st : St} {L' : Nat → Option Blk} : ∀ {l : List (Nat × AV)}, subT st L' l → ∀ t, lkA l t = .any ∨ slotOK st.lk L' (st.get t) (lkA l t)
  | [], _, t => .inl rfl
  | (k, v) :: r, h, t => by
    simp only [lkA]
    split
    · rename_i e; subst e; exact .inr h.1
    · exact subT_get h.2 t
theorem subB_get {L L' : Nat → Option Blk} : ∀ {l : List (Nat × Blk)}, subB L L' l → ∀ id b, lkB l id = some b → (L id = some b ∧ blkOK L' b) ∨ (L id = none ∧ ∃ sz d, b = .cells sz false d []) ∨ blkS L L' id b
  | [], _, id, b, h => by simp [lkB] at h
  | (k, v) :: r, h, id, b, hb => by
    simp only [lkB] at hb
    split at hb
    · rename_i e; subst e; cases hb; exact h.1
    · exact subB_get h.2 id b hb
theorem extsOK_get {L L' : Nat → Option Blk} : ∀ {m : Nat}, extsOK L L' m → ∀ i, i < m → L' i = L i
  | m + 1, h, i, hi => by
    by_cases e : i = m
    · subst e; exact h.1
    · exact extsOK_get h.2 i (by omega)
theorem Sim.weak0 {N : Nat} {L0 : Nat → Option Blk} {φ0 : Nat → Option Nat} {ok0 : Nat → Nat → Prop} {w0 : World} {st st' : St} {ok : Nat → Nat → Prop} {φ : Nat → Option Nat} {a : Act} {w : World} {m : Nat}
    (hS : Sim N L0 φ0 ok0 w0 st ok φ a w) (hm : ∀ i, L0 i ≠ none → i < m) (h : Weak0 m st st') : ∃ ok' φ', Sim N L0 φ0 ok0 w0 st' ok' φ' a w := by
  let okv : Nat → Nat → Prop := fun b o => ok b o ∨ ∃ id, st'.lk id = none ∧ Seen st.lk φ [id] b o
  let φv : Nat → Option Nat := fun id => match st'.lk id with | none => none | some _ => φ id
  have hblk := fun id b hb => subB_get h.blks id b hb
  have hφ : ∀ id b, st'.lk id = some b → φv id = φ id := fun id b hb => by simp only [φv, hb]
  have kR : ∀ a v, R w ok st.lk φ a v → idsOK st'.lk a → R w okv st'.lk φv a v := by
    intro a v hr
    induction hr with
    | pure a v h => intro _; exact .pure _ _ (h.mono (fun _ _ h => .inl h) (fun _ _ _ => rfl))
    | ref id off len hw va vn vc sz ro d c hL hle h =>
      intro hi
      simp only [idsOK] at hi
      cases hb : st'.lk id with
      | none => exact absurd hb hi
      | some b =>
        rcases hblk id b hb with ⟨h1, _⟩ | ⟨h1, _⟩ | ⟨sz1, ro1, d1, c1, c1', h1, rfl, h2⟩
        · rw [hL] at h1; cases h1
          exact .ref id off len hw va vn vc sz ro d c hb hle (fun e => by
            obtain ⟨g1, g2⟩ := h e
            refine ⟨g1, ?_⟩
            rw [hφ id _ hb]; exact g2)
        · rw [hL] at h1; cases h1
        · rw [hL] at h1; cases h1
          exact .ref id off len hw va vn vc sz ro d c1' hb (by rw [h2.1]; exact hle) (fun e => by
            obtain ⟨g1, g2⟩ := h (by rw [e, h2.1])
            refine ⟨g1, ?_⟩
            rw [hφ id _ hb]; exact g2)
    | ptr id i j hw pa sz ro d c hL hle h =>
      intro hi
      simp only [idsOK] at hi
      cases hb : st'.lk id with
      | none => exact absurd hb hi
      | some b =>
        rcases hblk id b hb with ⟨h1, _⟩ | ⟨h1, _⟩ | ⟨sz1, ro1, d1, c1, c1', h1, rfl, h2⟩
        · rw [hL] at h1; cases h1
          exact .ptr id i j hw pa sz ro d c hb hle (fun e => by rw [hφ id _ hb]; exact h e)
        · rw [hL] at h1; cases h1
        · rw [hL] at h1; cases h1
          exact .ptr id i j hw pa sz ro d c1' hb (by rw [h2.1]; exact hle) (fun e => by rw [hφ id _ hb]; exact h (by rw [e, h2.1]))
    | yld id lc stt pd sl b hL hφi =>
      intro hi
      simp only [idsOK] at hi
      cases hb : st'.lk id with
      | none => exact absurd hb hi
      | some bb =>
        rcases hblk id bb hb with ⟨h1, _⟩ | ⟨h1, _⟩ | ⟨sz1, ro1, d1, c1, c1', h1, _⟩
        · rw [hL] at h1; cases h1
          exact .yld id lc stt pd sl b hb (by rw [hφ id _ hb]; exact hφi)
        · rw [hL] at h1; cases h1
        · rw [hL] at h1; cases h1
    | mp id es b hL hφi =>
      intro hi
      simp only [idsOK] at hi
      cases hb : st'.lk id with
      | none => exact absurd hb hi
      | some bb =>
        rcases hblk id bb hb with ⟨h1, _⟩ | ⟨h1, _⟩ | ⟨sz1, ro1, d1, c1, c1', h1, _⟩
        · rw [hL] at h1; cases h1
          exact .mp id es b hb (by rw [hφ id _ hb]; exact hφi)
        · rw [hL] at h1; cases h1
        · rw [hL] at h1; cases h1
    | it id s pos b hL hφi =>
      intro hi
      simp only [idsOK] at hi
      cases hb : st'.lk id with
      | none => exact absurd hb hi
      | some bb =>
        rcases hblk id bb hb with ⟨h1, _⟩ | ⟨h1, _⟩ | ⟨sz1, ro1, d1, c1, c1', h1, _⟩
        · rw [hL] at h1; cases h1
          exact .it id s pos b hb (by rw [hφ id _ hb]; exact hφi)
        · rw [hL] at h1; cases h1
        · rw [hL] at h1; cases h1
    | agg cs vs hl h1 h ih => intro hi; exact .agg cs vs hl h1 (fun i a v ha hv => ih i a v ha hv (idsOKL_get hi i a ha))
    | tuple cs vs hl h ih => intro hi; exact .tuple cs vs hl (fun i a v ha hv => ih i a v ha hv (idsOKL_get hi i a ha))
    | clo f k cs vs hl h ih => intro hi; exact .clo f k cs vs hl (fun i a v ha hv => ih i a v ha hv (idsOKL_get hi i a ha))
    | condT a v h ih => intro hi; exact .condT a v (ih hi)
  have kE : ∀ sz c vs, RE w ok st.lk φ sz c vs → contOK st'.lk c → RE w okv st'.lk φv sz c vs := by
    intro sz c vs hre hc
    refine ⟨hre.1, hre.2.1, fun i x j y hx hy => ?_⟩
    obtain ⟨v, h1, h2, h3⟩ := hre.2.2 i x j y hx hy
    refine ⟨v, h1, h2, ?_⟩
    rcases hc with hc | hc
    · exact .pure _ _ ((h3.toRp (pureBL_iff.1 (pureEl_iff.1 hc i x hx) j y hy)).mono (fun _ _ h => .inl h) (fun _ _ _ => rfl))
    · refine kR _ _ h3 ?_
      have hmem : y ∈ c.flatMap AV.cells := List.mem_flatMap.2 ⟨x, List.mem_of_getElem? hx, List.mem_of_getElem? hy⟩
      obtain ⟨k, hk, rfl⟩ := List.mem_iff_getElem.1 hmem
      exact idsOKL_get hc k _ (List.getElem?_eq_getElem hk)
  have kS4 : ∀ v v' u, R w ok st.lk φ v u → slotO4 st.lk st'.lk v v' → R w okv st'.lk φv v' u := by
    intro v v' u hs h1
    rcases h1 with ⟨h1, h2⟩ | ⟨id, sz, d, h1, h2, h3, h4⟩ | ⟨id, off, len, hw, sz, ro, d, c, h1, h2, h3, h4, h5, h6⟩ | ⟨sz, h1, h2⟩
    · rw [← h1] at h2 ⊢; exact kR _ _ hs h2
    · have : ∃ a0, u = .slice a0 0 0 := by
        rcases h1 with h1 | h1 <;> rw [h1] at hs <;> cases hs with | pure _ _ h => cases h; exact ⟨_, rfl⟩
      obtain ⟨a0, this⟩ := this
      rw [h2, this]
      exact .ref id 0 0 0 a0 0 0 sz false d [] h4 (Nat.le_refl _) (fun _ => ⟨Nat.le_refl _, .inl ⟨rfl, _, rfl⟩⟩)
    · rw [h1] at hs
      rw [h6]
      exact .pure _ _ (purA_ok hS.heap (L := st.lk) (a := .ref id off len hw) (ids := [id]) (q := hw = c.length ∧ pureEl c = true) (by simp only [purA, h2]) ⟨h4, h5⟩ hs (fun _ _ h => .inl h) (fun b o hb => .inr ⟨id, h3, hb⟩))
    · have : ∃ a0, u = .slice a0 0 0 := by
        rcases h1 with h1 | h1 <;> rw [h1] at hs <;> cases hs with | pure _ _ h => cases h; exact ⟨_, rfl⟩
      obtain ⟨a0, this⟩ := this
      rw [h2, this]
      exact .pure _ _ (.list0 sz a0 0 (Nat.zero_le _))
  have kS : ∀ v v' u, R w ok st.lk φ v u → slotOK st.lk st'.lk v v' → R w okv st'.lk φv v' u := by
    intro v v' u hs h1
    rcases h1 with h1 | ⟨xs, ys, rfl, rfl, hly, h1⟩
    · exact kS4 _ _ _ hs h1
    · obtain ⟨vs, rfl, hl, h2, h3⟩ := hs.aggInv
      refine .agg ys vs (by omega) h2 (fun i y v hy hv => ?_)
      have hi : i < xs.length := by rw [← hly]; exact (List.getElem?_eq_some_iff.1 hy).1
      rcases h1 i _ y (List.getElem?_eq_getElem hi) hy with rfl | h4
      · exact .pure _ _ (.any _)
      · exact kS4 _ _ _ (h3 i _ v (List.getElem?_eq_getElem hi) hv) h4
  have kC : ∀ sz c c' vs, RE w ok st.lk φ sz c vs → contS st.lk st'.lk c c' → RE w okv st'.lk φv sz c' vs := by
    intro sz c c' vs hre hc
    have each : ∀ (i : Nat) (x' : AV), c'[i]? = some x' → ∃ x, c[i]? = some x := fun i x' hx => by
      have hi := (List.getElem?_eq_some_iff.1 hx).1
      exact ⟨_, List.getElem?_eq_getElem (by rw [← hc.1]; exact hi)⟩
    refine ⟨by rw [hc.1]; exact hre.1, fun i x' hx' => ?_, fun i x' j y' hx' hy' => ?_⟩
    · obtain ⟨x, hx⟩ := each i x' hx'
      rw [(hc.2 i x x' hx hx').1]; exact hre.2.1 i x hx
    · obtain ⟨x, hx⟩ := each i x' hx'
      obtain ⟨h1, h2⟩ := hc.2 i x x' hx hx'
      have hj := (List.getElem?_eq_some_iff.1 hy').1
      have hy : x.cells[j]? = some x.cells[j] := List.getElem?_eq_getElem (by rw [← h1]; exact hj)
      obtain ⟨v, g1, g2, g3⟩ := hre.2.2 i x j _ hx hy
      exact ⟨v, g1, g2, kS _ _ _ g3 (h2 j _ _ hy hy')⟩
  refine ⟨okv, φv, ?_, hS.size, ?_, ⟨?_, ?_, ?_, ?_, ?_⟩, ?_, hS.frame, ?_, ?_⟩
  · intro t
    rcases subT_get h.slots t with h1 | h1
    · show R w okv st'.lk φv (lkA st'.tmps t) _
      rw [h1]; exact .pure _ _ (.any _)
    · show R w okv st'.lk φv (lkA st'.tmps t) _
      exact kS _ _ _ (hS.slots t) h1
  · obtain ⟨cur, old, e1, e2, e3, e4⟩ := hS.defers
    have hφs : ∀ i b, φv i = some b → φ i = some b := fun i b hi => by
      simp only [φv] at hi
      split at hi
      · cases hi
      · exact hi
    have e3' : ∀ b ∈ old, w0.heap.size ≤ b ∧ OldOK w okv φv b := fun b hb => by
      obtain ⟨g1, g2⟩ := e3 b hb
      refine ⟨g1, g2.at_, fun i hi => g2.name i (hφs i b hi), fun o ho => ?_⟩
      rcases ho with ho | ⟨id, _, k, hk, h2, _⟩
      · exact g2.shut o ho
      · exact g2.name _ h2
    rcases e4 with e4 | ⟨b, h1, h2, h3, h5⟩
    · exact ⟨cur, old, e1, e2, e3', .inl e4⟩
    · rcases extsOK_def h.exts with h4 | h4 | ⟨h4, _⟩
      · rw [h1] at h4; cases h4
      · exact ⟨cur, old, e1, e2, e3', .inr ⟨b, h4, by rw [hφ _ _ h4]; exact h2, h3, h5⟩⟩
      · obtain ⟨b', o, k1, k2, k3⟩ := hS.heap.obj _ _ h1 rfl
        rw [h2] at k1; cases k1
        cases k3
        refine ⟨[], b :: old, by rw [e1, h5]; simp, List.nodup_cons.2 ⟨fun hb => (e3 b hb).2.name _ h2, e2⟩, fun x hx => ?_, .inl rfl⟩
        rcases List.mem_cons.1 hx with rfl | hx
        · refine ⟨h3, k2, fun i hi => ?_, fun o ho => ?_⟩
          · have hid := hS.heap.inj _ _ _ (hφs i _ hi) h2
            subst hid
            simp only [φv, h4] at hi
            cases hi
          · rcases ho with ho | ⟨id, _, k, hk, g2, sz, ro, d, c, g3, _⟩
            · obtain ⟨sz, d, c, g1, _⟩ := (hS.heap.shut _ o ho).2 _ h2
              rw [h1] at g1; cases g1
            · have hid := hS.heap.inj _ _ _ g2 h2
              subst hid
              rw [h1] at g3; cases g3
        · exact e3' x hx
  · intro id sz ro d c hL
    rw [hφ id _ hL]
    rcases hblk id _ hL with ⟨h1, h2⟩ | ⟨h1, sz', d', h2⟩ | ⟨sz1, ro1, d1, c1, c1', h1, h2, h3⟩
    · rcases hS.heap.blk id sz ro d c h1 with h3 | ⟨b, vs, rest, e, lo, hi, g1, g2, g3, g4⟩
      · exact .inl h3
      · exact .inr ⟨b, vs, rest, e, lo, hi, g1, g2, g3, kE _ _ _ g4 h2⟩
    · cases h2
      exact .inl ⟨hS.heap.dom id h1, rfl⟩
    · cases h2
      rcases hS.heap.blk id _ _ _ _ h1 with ⟨h4, h5⟩ | ⟨b, vs, rest, e, lo, hi, g1, g2, g3, g4⟩
      · exact .inl ⟨h4, List.length_eq_zero_iff.1 (by rw [h3.1, h5]; rfl)⟩
      · exact .inr ⟨b, vs, rest, e, lo, hi, g1, g2, g3, kC _ _ _ _ g4 h3⟩
  · intro id bb hL hcc
    rw [hφ id _ hL]
    rcases hblk id _ hL with ⟨h1, h2⟩ | ⟨_, sz', d', h2⟩ | ⟨sz1, ro1, d1, c1, c1', _, h2, _⟩
    · obtain ⟨b, o, g1, g2, g3⟩ := hS.heap.obj id bb h1 hcc
      refine ⟨b, o, g1, g2, ?_⟩
      cases g3 with
      | iter s pos => exact .iter s pos
      | map es ents clock h => exact .map es ents clock h
      | defer => exact .defer
      | loop lc stt pd sl r g => exact .loop lc stt pd sl r ⟨g.state, g.pending, g.params, g.assign, g.body, g.size, fun t => kR _ _ (g.slots t) (idsOKS_lk t h2)⟩
    · subst h2; simp [Blk.isC] at hcc
    · subst h2; simp [Blk.isC] at hcc
  · intro id hL
    simp only [φv, hL]
  · intro i j b hi hj
    simp only [φv] at hi hj
    split at hi
    · cases hi
    · split at hj
      · cases hj
      · exact hS.heap.inj i j b hi hj
  · intro b o hb
    rcases hb with hb | ⟨id, hid, id', hid', h1, h2⟩
    · obtain ⟨h1, h2⟩ := hS.heap.shut b o hb
      refine ⟨h1, fun i hi => ?_⟩
      simp only [φv] at hi
      split at hi
      · cases hi
      · rename_i bb hbb
        obtain ⟨sz, d, c, h3, h4⟩ := h2 i hi
        rcases hblk i _ hbb with ⟨h5, _⟩ | ⟨h5, _⟩ | ⟨sz1, ro1, d1, c1, c1', h5, rfl, h6⟩
        · rw [h3] at h5; cases h5
          exact ⟨sz, d, c, hbb, h4⟩
        · rw [h3] at h5; cases h5
        · rw [h3] at h5; cases h5
          exact ⟨sz, d, c1', hbb, by rw [h6.1]; exact h4⟩
    · simp only [List.mem_singleton] at hid'
      subst hid'
      refine ⟨hS.heap.lt h1, fun i hi => ?_⟩
      simp only [φv] at hi
      split at hi
      · cases hi
      · rename_i bb hbb
        have := hS.heap.inj _ _ b hi h1
        subst this
        rw [hid] at hbb; cases hbb
  · -- what stood when the call began
    refine ⟨fun b o hb => .inl (hS.kept.okUp b o hb), fun b o hb => hS.kept.cell b o hb, fun id sz ro d c hL => ?_, fun id bb hL hcc => ?_⟩
    · obtain ⟨ro', d', c', h1, h2, h3⟩ := hS.kept.cells id sz ro d c hL
      have e := extsOK_get h.exts id (hm id (by rw [hL]; simp))
      have h4 : st'.lk id = some (.cells sz ro' d' c') := by rw [e]; exact h1
      exact ⟨ro', d', c', h4, h2, fun e2 => by rw [hφ id _ h4]; exact h3 e2⟩
    · obtain ⟨b', h1, h2, h3⟩ := hS.kept.obj id bb hL hcc
      have e := extsOK_get h.exts id (hm id (by rw [hL]; simp))
      have h4 : st'.lk id = some b' := by rw [e]; exact h1
      exact ⟨b', h4, h2, by rw [hφ id _ h4]; exact h3⟩
  · intro id b hb
    simp only [φv] at hb
    split at hb
    · cases hb
    · exact hS.own id b hb
  · intro b o hb
    rcases hb with hb | ⟨id, hid, id', hid', h1, h2⟩
    · exact hS.okDn b o hb
    · rcases hS.own _ _ h1 with h3 | h3
      · exact .inr (.inr h3)
      · exact .inr (.inl h3)
def swapN (a b i : Nat) : Nat := if i = a then b else if i = b then a else i
theorem swapN_swapN (a b i : Nat) : swapN a b (swapN a b i) = i := by
  unfold swapN
  repeat' split
  all_goals omega
def swapB (a b : Nat) : List (Nat × Blk) → List (Nat × Blk)
  | [] => []
  | (k, v) :: r => (swapN a b k, renB (swapN a b) v) :: swapB a b r
theorem lkB_swap (a b i : Nat) : ∀ l : List (Nat × Blk), lkB (swapB a b l) (swapN a b i) = (lkB l i).map (renB (swapN a b))
  | [] => rfl
  | (k, v) :: r => by
    simp only [swapB, lkB]
    by_cases h : k = i
    · subst h; simp
    · rw [if_neg h, if_neg (fun e => h (by rw [← swapN_swapN a b k, e, swapN_swapN])), lkB_swap a b i r]
def St.swap (s : St) (a b : Nat) : St := ⟨renS (swapN a b) s.tmps, swapB a b s.L⟩
theorem swap_lk (s : St) (a b i : Nat) : (s.swap a b).lk i = (s.lk (swapN a b i)).map (renB (swapN a b)) := by
  have := lkB_swap a b (swapN a b i) s.L
  rw [swapN_swapN] at this
  exact this
theorem swap_get (s : St) (a b t : Nat) : (s.swap a b).get t = ren (swapN a b) (s.get t) := lkA_renS _ _ _
theorem same_renB {σ : Nat → Nat} {b b' : Blk} (h : b.same b') : b.same (renB σ b') := by
  cases b <;> cases b' <;> simp_all [Blk.same, renB]
theorem Sim.swap {N : Nat} {L0 : Nat → Option Blk} {φ0 : Nat → Option Nat} {ok0 : Nat → Nat → Prop} {w0 : World} {st : St} {ok : Nat → Nat → Prop} {φ : Nat → Option Nat} {c : Act} {w : World} {a b : Nat}
    (hS : Sim N L0 φ0 ok0 w0 st ok φ c w) (ha : L0 a = none) (hb : L0 b = none) (h1 : a ≠ defId) (h2 : b ≠ defId) : Sim N L0 φ0 ok0 w0 (st.swap a b) ok (fun i => φ (swapN a b i)) c w := by
  have hL : ∀ i x, st.lk i = some x → (st.swap a b).lk (swapN a b i) = some (renB (swapN a b) x) := fun i x h => by rw [swap_lk, swapN_swapN, h]; rfl
  have hφ : ∀ i x, st.lk i = some x → φ (swapN a b (swapN a b i)) = φ i := fun i x _ => by rw [swapN_swapN]
  have kR : ∀ v x, R w ok st.lk φ v x → R w ok (st.swap a b).lk (fun i => φ (swapN a b i)) (Abs.ren (swapN a b) v) x := fun v x h =>
    R.ren (swapN a b) hL hφ (fun _ _ h => h) (fun _ _ _ => rfl) (fun _ _ _ _ _ _ h => h) h
  have hfix : ∀ i, i ≠ a → i ≠ b → swapN a b i = i := fun i g1 g2 => by rw [swapN, if_neg g1, if_neg g2]
  refine ⟨fun t => by rw [swap_get]; exact kR _ _ (hS.slots t), hS.size, ?_, ⟨?_, ?_, ?_, ?_, ?_⟩, ⟨hS.kept.okUp, hS.kept.cell, ?_, ?_⟩, hS.frame, fun id x hx => hS.own _ x hx, hS.okDn⟩
  · obtain ⟨cur, old, e1, e2, e3, e4⟩ := hS.defers
    refine ⟨cur, old, e1, e2, fun b hb => ⟨(e3 b hb).1, (e3 b hb).2.at_, fun i => (e3 b hb).2.name _, (e3 b hb).2.shut⟩, ?_⟩
    rcases e4 with h | ⟨x, g1, g2, g3, g4⟩
    · exact .inl h
    · have e := hfix defId (Ne.symm h1) (Ne.symm h2)
      refine .inr ⟨x, ?_, by show φ (swapN a b defId) = some x; rw [e]; exact g2, g3, g4⟩
      rw [swap_lk, e, g1]; rfl
  · intro id sz ro d cc h
    rw [swap_lk] at h
    cases hk : st.lk (swapN a b id) with
    | none => rw [hk] at h; cases h
    | some x =>
      rw [hk] at h
      cases x <;> simp only [Option.map_some, renB, Option.some.injEq, Blk.cells.injEq, reduceCtorEq] at h
      obtain ⟨rfl, rfl, rfl, rfl⟩ := h
      rcases hS.heap.blk _ _ _ _ _ hk with ⟨g1, g2⟩ | ⟨k, vs, rest, e, lo, hi, g1, g2, g3, g4⟩
      · exact .inl ⟨g1, by rw [g2]; rfl⟩
      · exact .inr ⟨k, vs, rest, e, lo, hi, g1, g2, (BF_ren _ _).2 g3, RE.ren _ kR g4⟩
  · intro id x h hc
    rw [swap_lk] at h
    cases hk : st.lk (swapN a b id) with
    | none => rw [hk] at h; cases h
    | some y =>
      rw [hk] at h
      cases h
      rw [renB_isC] at hc
      obtain ⟨k, o, g1, g2, g3⟩ := hS.heap.obj _ y hk hc
      exact ⟨k, o, g1, g2, ObjR.ren _ kR g3⟩
  · intro id h
    rw [swap_lk] at h
    exact hS.heap.dom _ (by cases hk : st.lk (swapN a b id) with | none => rfl | some y => rw [hk] at h; cases h)
  · intro i j x hi hj
    have := hS.heap.inj _ _ x hi hj
    rw [← swapN_swapN a b i, this, swapN_swapN]
  · intro x o hx
    obtain ⟨g1, g2⟩ := hS.heap.shut x o hx
    refine ⟨g1, fun id hid => ?_⟩
    obtain ⟨sz, d, cc, g3, g4⟩ := g2 _ hid
    refine ⟨sz, Abs.ren (swapN a b) d, cc.map (Abs.ren (swapN a b)), ?_, by rw [List.length_map]; exact g4⟩
    rw [swap_lk, g3]; rfl
  · intro id sz ro d cc h
    have e := hfix id (fun e => by rw [e, ha] at h; cases h) (fun e => by rw [e, hb] at h; cases h)
    obtain ⟨ro', d', c', g1, g2, g3⟩ := hS.kept.cells id sz ro d cc h
    refine ⟨ro', Abs.ren (swapN a b) d', c'.map (Abs.ren (swapN a b)), ?_, by rw [List.length_map]; exact g2, ?_⟩
    · rw [swap_lk, e, g1]; rfl
    · rw [List.length_map]; show _ → φ (swapN a b id) = φ0 id ∧ ∀ x n, φ0 id = some x → _; rw [e]; exact g3
  · intro id x h hc
    have e := hfix id (fun e => by rw [e, ha] at h; cases h) (fun e => by rw [e, hb] at h; cases h)
    obtain ⟨b', g1, g2, g3⟩ := hS.kept.obj id x h hc
    refine ⟨renB (swapN a b) b', ?_, same_renB g2, by show φ (swapN a b id) = φ0 id; rw [e]; exact g3⟩
    rw [swap_lk, e, g1]; rfl
inductive Weak (m : Nat) : St → St → Prop
  | base {s t : St} (h : Weak0 m s t) : Weak m s t
  | swap {s t : St} (a b : Nat) (ha : m ≤ a) (hb : m ≤ b) (h1 : a ≠ defId) (h2 : b ≠ defId) (h : Weak m (s.swap a b) t) : Weak m s t
theorem Sim.weak {N : Nat} {L0 : Nat → Option Blk} {φ0 : Nat → Option Nat} {ok0 : Nat → Nat → Prop} {w0 : World} {st st' : St} {ok : Nat → Nat → Prop} {φ : Nat → Option Nat} {a : Act} {w : World} {m : Nat}
    (hS : Sim N L0 φ0 ok0 w0 st ok φ a w) (hm : ∀ i, L0 i ≠ none → i < m) (h : Weak m st st') : ∃ ok' φ', Sim N L0 φ0 ok0 w0 st' ok' φ' a w := by
  induction h generalizing φ with
  | base h => exact hS.weak0 hm h
  | swap x y hx hy h1 h2 _ ih =>
    have hn : ∀ i, m ≤ i → L0 i = none := fun i hi => by
      cases e : L0 i with
      | none => rfl
      | some b => have := hm i (by rw [e]; simp); omega
    exact ih (hS.swap (hn x hx) (hn y hy) h1 h2)
def delL : List (Nat × Blk) → List (Nat × Blk)
  | [] => []
  | (k, b) :: r => if k = defId then delL r else (k, b) :: delL r
def St.del (s : St) : St := ⟨s.tmps, delL s.L⟩
def dropF {α : Type} (f : Nat → Option α) : Nat → Option α := fun i => if i = defId then none else f i
theorem lkB_delL : ∀ (l : List (Nat × Blk)) (i : Nat), lkB (delL l) i = if i = defId then none else lkB l i
  | [], i => by simp [delL, lkB]
  | (k, b) :: r, i => by
    have ih := lkB_delL r i
    simp only [delL]
    by_cases e : k = defId
    · subst e
      rw [if_pos rfl, ih]
      by_cases e2 : i = defId
      · simp [e2]
      · rw [if_neg e2, if_neg e2, lkB, if_neg (Ne.symm e2)]
    · rw [if_neg e, lkB, ih, lkB]
      by_cases e2 : k = i
      · subst e2; simp [e]
      · simp [e2]
theorem del_lk (s : St) : s.del.lk = dropF s.lk := by
  funext i; simp only [St.lk, St.del, lkB_delL, dropF]
theorem R.drop {w w' : World} {ok : Nat → Nat → Prop} {L : Nat → Option Blk} {φ : Nat → Option Nat} {a : AV} {v : Value} (hd : ∀ b, L defId = some b → b = .defer)
    (hc : ∀ b o, ok b o → w'.cell? ⟨b, o, none⟩ = w.cell? ⟨b, o, none⟩) (hcap : ∀ id b n, id ≠ defId → φ id = some b → CapOK w b n → CapOK w' b n) (h : R w ok L φ a v) :
    R w' ok (dropF L) (dropF φ) a v := by
  have ne : ∀ {id blk}, L id = some blk → blk ≠ .defer → id ≠ defId := fun h1 h2 e => by subst e; exact h2 (hd _ h1)
  induction h with
  | pure a v h => exact .pure _ _ (h.mono (fun _ _ h => h) hc)
  | ref id off len hw va vn vc sz ro d c hL hle h =>
    have e := ne hL (by simp)
    refine .ref id off len hw va vn vc sz ro d c (by simp [dropF, e, hL]) hle (fun e1 => ?_)
    obtain ⟨g1, g2⟩ := h e1
    refine ⟨g1, ?_⟩
    rcases g2 with g2 | ⟨b, cap, pa, g2, g3, g4, g5, g6⟩
    · exact .inl g2
    · refine .inr ⟨b, cap, pa, by simp [dropF, e, g2], g3, g4, g5, ?_⟩
      rcases g6 with g6 | ⟨g6, g7⟩
      · exact .inl g6
      · exact .inr ⟨g6, hcap id b _ e g2 g7⟩
  | ptr id i j hw pa sz ro d c hL hle h =>
    have e := ne hL (by simp)
    refine .ptr id i j hw pa sz ro d c (by simp [dropF, e, hL]) hle (fun e1 => ?_)
    obtain ⟨b, g1, g2⟩ := h e1
    exact ⟨b, by simp [dropF, e, g1], g2⟩
  | mp id es b hL hφ =>
    have e := ne hL (by simp)
    exact .mp id es b (by simp [dropF, e, hL]) (by simp [dropF, e, hφ])
  | it id s pos b hL hφ =>
    have e := ne hL (by simp)
    exact .it id s pos b (by simp [dropF, e, hL]) (by simp [dropF, e, hφ])
  | yld id lc st pd sl b hL hφ =>
    have e := ne hL (by simp)
    exact .yld id lc st pd sl b (by simp [dropF, e, hL]) (by simp [dropF, e, hφ])
  | agg cs vs hl h1 h ih => exact .agg cs vs hl h1 ih
  | tuple cs vs hl h ih => exact .tuple cs vs hl ih
  | clo f k cs vs hl h ih => exact .clo f k cs vs hl ih
  | condT a v h ih => exact .condT a v ih
theorem Sim.drop {N : Nat} {L0 : Nat → Option Blk} {φ0 : Nat → Option Nat} {ok0 : Nat → Nat → Prop} {w0 : World} {st : St} {ok : Nat → Nat → Prop} {φ : Nat → Option Nat} {a : Act} {w w' : World}
    (hS : Sim N L0 φ0 ok0 w0 st ok φ a w) (h0 : L0 defId = none) (hd : ∀ b, st.lk defId = some b → b = .defer) (hos : w'.os = w.os) (htape : w'.tape = w.tape) (hout : w'.output = w.output) (hsize : w'.heap.size = w.heap.size)
    (hblk : ∀ k, φ defId ≠ some k → w'.heap[k]? = w.heap[k]?) : Sim N L0 φ0 ok0 w0 st.del ok (dropF φ) { a with defers := [] } w' := by
  have hnok : ∀ b o, ok b o → φ defId ≠ some b := fun b o hb e => by
    obtain ⟨sz, d, c, h1, _⟩ := (hS.heap.shut b o hb).2 _ e
    have := hd _ h1
    cases this
  have hc : ∀ b o, ok b o → w'.cell? ⟨b, o, none⟩ = w.cell? ⟨b, o, none⟩ := fun b o hb => World.cell?_of_block (a := ⟨b, o, none⟩) (hblk b (hnok b o hb))
  have hoth : ∀ id b, id ≠ defId → φ id = some b → w'.heap[b]? = w.heap[b]? := fun id b hne hb => hblk b (fun e => hne (hS.heap.inj _ _ b hb e))
  have hcap : ∀ id b n, id ≠ defId → φ id = some b → CapOK w b n → CapOK w' b n := fun id b n hne hb hk => capOK_of_heap (hoth id b hne hb) hk
  have kR : ∀ a v, R w ok st.lk φ a v → R w' ok (dropF st.lk) (dropF φ) a v := fun a v hr => hr.drop hd hc hcap
  have ne : ∀ {id blk}, dropF st.lk id = some blk → id ≠ defId ∧ st.lk id = some blk := fun {id blk} h1 => by
    simp only [dropF] at h1
    split at h1
    · cases h1
    · rename_i e; exact ⟨e, h1⟩
  have neφ : ∀ {id b}, dropF φ id = some b → id ≠ defId ∧ φ id = some b := fun {id blk} h1 => by
    simp only [dropF] at h1
    split at h1
    · cases h1
    · rename_i e; exact ⟨e, h1⟩
  refine ⟨fun t => by rw [del_lk]; exact kR _ _ (hS.slots t), hS.size, .nil, ?_, ?_, ?_, fun id b hb => hS.own id b (neφ hb).2, hS.okDn⟩
  · rw [del_lk]
    refine ⟨fun id sz ro d c hL => ?_, fun id bb hL hcc => ?_, fun id hL => ?_, fun i j b hi hj => hS.heap.inj i j b (neφ hi).2 (neφ hj).2, fun b o hb => ?_⟩
    · obtain ⟨e, hL⟩ := ne hL
      rcases hS.heap.blk id sz ro d c hL with ⟨h1, h2⟩ | ⟨b, vs, rest, ee, lo, hi, h1, h2, h3, h4⟩
      · exact .inl ⟨by simp [dropF, e, h1], h2⟩
      · exact .inr ⟨b, vs, rest, ee, lo, hi, by simp [dropF, e, h1], by rw [hoth id b e h1]; exact h2, h3, h4.keep kR⟩
    · obtain ⟨e, hL⟩ := ne hL
      obtain ⟨b, o, h1, h2, h3⟩ := hS.heap.obj id bb hL hcc
      exact ⟨b, o, by simp [dropF, e, h1], by rw [hoth id b e h1]; exact h2, h3.keep kR⟩
    · simp only [dropF] at hL ⊢
      split
      · rfl
      · rename_i e
        rw [if_neg e] at hL
        exact hS.heap.dom id hL
    · obtain ⟨h1, h2⟩ := hS.heap.shut b o hb
      refine ⟨by rw [hsize]; exact h1, fun id hid => ?_⟩
      obtain ⟨e, hid⟩ := neφ hid
      obtain ⟨sz, d, c, h3, h4⟩ := h2 id hid
      exact ⟨sz, d, c, by simp [dropF, e, h3], h4⟩
  · rw [del_lk]
    have hne0 : ∀ id blk, L0 id = some blk → id ≠ defId := fun id blk h e => by subst e; rw [h0] at h; cases h
    refine ⟨hS.kept.okUp, fun b o hb => (hc b o (hS.kept.okUp b o hb)).trans (hS.kept.cell b o hb), fun id sz ro d c hL => ?_, fun id bb hL hcc => ?_⟩
    · have e := hne0 _ _ hL
      obtain ⟨ro', d', c', h1, h2, h3⟩ := hS.kept.cells id sz ro d c hL
      refine ⟨ro', d', c', by simp [dropF, e, h1], h2, fun e2 => ?_⟩
      obtain ⟨h4, h5⟩ := h3 e2
      exact ⟨by simp [dropF, e, h4], fun b n hb hk => hcap id b n e (h4.trans hb) (h5 b n hb hk)⟩
    · have e := hne0 _ _ hL
      obtain ⟨b', h1, h2, h3⟩ := hS.kept.obj id bb hL hcc
      exact ⟨b', by simp [dropF, e, h1], h2, by simp [dropF, e, h3]⟩
  · refine ⟨hos.trans hS.frame.os, htape.trans hS.frame.tape, hout.trans hS.frame.output, by rw [hsize]; exact hS.frame.size, fun k hk hx => ?_⟩
    rw [hblk k (fun e => ?_)]
    · exact hS.frame.block k hk hx
    · rcases hS.own _ _ e with h1 | h1
      · exact hx h1
      · omega
theorem Sim.other {N : Nat} {L0 : Nat → Option Blk} {φ0 : Nat → Option Nat} {ok0 : Nat → Nat → Prop} {w0 : World} {st : St} {ok : Nat → Nat → Prop} {φ : Nat → Option Nat} {a : Act} {w w' : World} {b : Nat}
    (hS : Sim N L0 φ0 ok0 w0 st ok φ a w) (hd : a.defers = []) (h0 : w0.heap.size ≤ b) (hb : OldOK w ok φ b) (hos : w'.os = w.os) (htape : w'.tape = w.tape) (hout : w'.output = w.output) (hsize : w'.heap.size = w.heap.size)
    (hblk : ∀ k, k ≠ b → w'.heap[k]? = w.heap[k]?) : Sim N L0 φ0 ok0 w0 st ok φ a w' := by
  have hn : ∀ i k, φ i = some k → w'.heap[k]? = w.heap[k]? := fun i k hi => hblk k (fun e => hb.name i (by rw [hi, e]))
  have keeps : Keeps w ok st.lk φ w' ok st.lk φ := by
    refine ⟨fun _ _ h => h, fun k o hk => World.cell?_of_block (a := ⟨k, o, none⟩) (hblk k (fun e => hb.shut o (by rw [← e]; exact hk))), fun id sz ro d c hL => ⟨ro, d, c, hL, Nat.le_refl _, fun _ => ⟨rfl, fun k n hk hc => ?_⟩⟩, fun id bb hL hcc => ⟨bb, hL, Blk.same_refl hcc, rfl⟩⟩
    exact capOK_of_heap (hn _ _ hk) hc
  have hk := fun a v hr => R.keep (a := a) (v := v) keeps hr
  refine ⟨fun t => hk _ _ (hS.slots t), hS.size, by rw [hd]; exact .nil, ⟨?_, ?_, hS.heap.dom, hS.heap.inj, fun k o hko => ⟨by rw [hsize]; exact (hS.heap.shut k o hko).1, (hS.heap.shut k o hko).2⟩⟩, hS.kept.trans keeps, ?_, hS.own, hS.okDn⟩
  · intro id sz ro d c hL
    rcases hS.heap.blk id sz ro d c hL with h1 | ⟨k, vs, rest, e, lo, hi, h1, h2, h3, h4⟩
    · exact .inl h1
    · exact .inr ⟨k, vs, rest, e, lo, hi, h1, by rw [hn _ _ h1]; exact h2, h3, h4.keep hk⟩
  · intro id bb hL hcc
    obtain ⟨k, o, h1, h2, h3⟩ := hS.heap.obj id bb hL hcc
    exact ⟨k, o, h1, by rw [hn _ _ h1]; exact h2, h3.keep hk⟩
  · refine ⟨hos.trans hS.frame.os, htape.trans hS.frame.tape, hout.trans hS.frame.output, by rw [hsize]; exact hS.frame.size, fun k hk hx => ?_⟩
    rw [hblk k (by omega)]
    exact hS.frame.block k hk hx
end Go.Abs
set_option linter.unusedVariables false
set_option linter.unusedSimpArgs false
namespace Go.Abs
def slotE0 (L L' : Nat → Option Blk) (v v' : AV) : Prop :=
  match v' with
  | .int k' n' => match v with | .int k n => k = k' ∧ n = n' | _ => False
  | .bool b' => match v with | .bool b => b = b' | _ => False
  | .str s' => match v with | .str s => s = s' | _ => False
  | .list sz' l' => match v with
    | .list sz l => sz = sz' ∧ l = l'
    | .nils => l' = []
    | .nil0 => l' = []
    | .ref id off len hw => match L id, L' id with
      | some (.cells sz _ _ c), none => sz = sz' ∧ (c.drop off).take len = l' ∧ hw = c.length ∧ pureEl c = true
      | _, _ => False
    | _ => False
  | .ref id' off' len' hw' => match v with
    | .ref id off len hw => id = id' ∧ off = off' ∧ len = len' ∧ hw = hw' ∧ L' id' ≠ none
    | .nils => off' = 0 ∧ len' = 0 ∧ hw' = 0 ∧ (match L id', L' id' with | none, some (.cells _ ro _ c) => ro = false ∧ c = [] | _, _ => False)
    | .nil0 => off' = 0 ∧ len' = 0 ∧ hw' = 0 ∧ (match L id', L' id' with | none, some (.cells _ ro _ c) => ro = false ∧ c = [] | _, _ => False)
    | _ => False
  | .any => True
  | v' => v = v' ∧ idsOK L' v'
theorem slotE0_ok {L L' : Nat → Option Blk} {v v' : AV} (h : slotE0 L L' v v') : v' = .any ∨ slotO4 L L' v v' := by
  cases v' <;> simp only [slotE0] at h
  case any => exact .inl rfl
  case int k' n' =>
    cases v <;> simp only at h
    exact .inr (.inl ⟨by rw [h.1, h.2], trivial⟩)
  case bool b' =>
    cases v <;> simp only at h
    exact .inr (.inl ⟨by rw [h], trivial⟩)
  case str b' =>
    cases v <;> simp only at h
    exact .inr (.inl ⟨by rw [h], trivial⟩)
  case list sz' l' =>
    cases v <;> simp only at h
    case list sz l => exact .inr (.inl ⟨by rw [h.1, h.2], trivial⟩)
    case nils => exact .inr (.inr (.inr (.inr ⟨sz', .inl rfl, by rw [h]⟩)))
    case nil0 => exact .inr (.inr (.inr (.inr ⟨sz', .inr rfl, by rw [h]⟩)))
    case ref id off len hw =>
      split at h
      · rename_i sz ro d c h1 h2
        obtain ⟨rfl, rfl, h3, h4⟩ := h
        exact .inr (.inr (.inr (.inl ⟨id, off, len, hw, sz, ro, d, c, rfl, h1, h2, h3, h4, rfl⟩)))
      · exact h.elim
  case ref id' off' len' hw' =>
    cases v <;> simp only at h
    case ref id off len hw =>
      obtain ⟨rfl, rfl, rfl, rfl, h5⟩ := h
      exact .inr (.inl ⟨rfl, h5⟩)
    case nils =>
      obtain ⟨rfl, rfl, rfl, h4⟩ := h
      split at h4
      · rename_i sz ro d c h1 h2
        obtain ⟨rfl, rfl⟩ := h4
        exact .inr (.inr (.inl ⟨id', sz, d, .inl rfl, rfl, h1, h2⟩))
      · exact h4.elim
    case nil0 =>
      obtain ⟨rfl, rfl, rfl, h4⟩ := h
      split at h4
      · rename_i sz ro d c h1 h2
        obtain ⟨rfl, rfl⟩ := h4
        exact .inr (.inr (.inl ⟨id', sz, d, .inr rfl, rfl, h1, h2⟩))
      · exact h4.elim
  all_goals exact .inr (.inl ⟨h.1, h.2⟩)
def hasSl : List AV → Bool
  | [] => false
  | .list .. :: _ => true
  | _ :: r => hasSl r
def aggE2 (L L' : Nat → Option Blk) : List AV → List AV → Prop
  | [], [] => True
  | x :: xs, y :: ys => slotE0 L L' x y ∧ aggE2 L L' xs ys
  | [], _ :: _ => False
  | _ :: _, [] => False
def aggE1 (L L' : Nat → Option Blk) : AV → List AV → Bool → Prop
  | .agg xs, ys, true => aggE2 L L' xs ys
  | v, ys, _ => v = .agg ys ∧ idsOK L' (.agg ys)
theorem aggE2_ok {L L' : Nat → Option Blk} : ∀ {xs ys : List AV}, aggE2 L L' xs ys → ys.length = xs.length ∧ ∀ (i : Nat) (x y : AV), xs[i]? = some x → ys[i]? = some y → y = .any ∨ slotO4 L L' x y
  | [], [], _ => ⟨rfl, fun i x y h => by simp at h⟩
  | [], _ :: _, h => h.elim
  | _ :: _, [], h => h.elim
  | x :: xs, y :: ys, h => by
    obtain ⟨h1, h2⟩ := h
    obtain ⟨g1, g2⟩ := aggE2_ok h2
    refine ⟨by simp [g1], fun i a b ha hb => ?_⟩
    cases i with
    | zero => simp at ha hb; subst ha hb; exact slotE0_ok h1
    | succ i => exact g2 i a b (by simpa using ha) (by simpa using hb)
def slotE (L L' : Nat → Option Blk) (v v' : AV) : Prop :=
  match v' with
  | .int k' n' => match v with | .int k n => k = k' ∧ n = n' | _ => False
  | .bool b' => match v with | .bool b => b = b' | _ => False
  | .str s' => match v with | .str s => s = s' | _ => False
  | .list sz' l' => match v with
    | .list sz l => sz = sz' ∧ l = l'
    | .nils => l' = []
    | .nil0 => l' = []
    | .ref id off len hw => match L id, L' id with
      | some (.cells sz _ _ c), none => sz = sz' ∧ (c.drop off).take len = l' ∧ hw = c.length ∧ pureEl c = true
      | _, _ => False
    | _ => False
  | .ref id' off' len' hw' => match v with
    | .ref id off len hw => id = id' ∧ off = off' ∧ len = len' ∧ hw = hw' ∧ L' id' ≠ none
    | .nils => off' = 0 ∧ len' = 0 ∧ hw' = 0 ∧ (match L id', L' id' with | none, some (.cells _ ro _ c) => ro = false ∧ c = [] | _, _ => False)
    | .nil0 => off' = 0 ∧ len' = 0 ∧ hw' = 0 ∧ (match L id', L' id' with | none, some (.cells _ ro _ c) => ro = false ∧ c = [] | _, _ => False)
    | _ => False
  | .any => True
  | .agg ys => aggE1 L L' v ys (hasSl ys)
  | v' => v = v' ∧ idsOK L' v'
theorem slotE_ok {L L' : Nat → Option Blk} {v v' : AV} (h : slotE L L' v v') : v' = .any ∨ slotOK L L' v v' := by
  by_cases ha : ∃ ys, v' = .agg ys
  · obtain ⟨ys, rfl⟩ := ha
    simp only [slotE] at h
    generalize hasSl ys = b at h
    have hf : ∀ v, aggE1 L L' v ys false → v = .agg ys ∧ idsOK L' (.agg ys) := fun v h => by cases v <;> exact h
    cases b with
    | false => exact .inr (.inl (.inl (hf _ h)))
    | true =>
      cases v
      case agg xs =>
        obtain ⟨g1, g2⟩ := aggE2_ok h
        exact .inr (.inr ⟨xs, ys, rfl, rfl, g1, g2⟩)
      all_goals exact .inr (.inl (.inl h))
  · have e : slotE L L' v v' = slotE0 L L' v v' := by
      cases v' <;> first | rfl | exact absurd ⟨_, rfl⟩ ha
    rw [e] at h
    rcases slotE0_ok h with h | h
    · exact .inl h
    · exact .inr (.inl h)
def subTE (st : St) (L' : Nat → Option Blk) : List (Nat × AV) → Prop
  | [] => True
  | (t, v') :: r => slotE st.lk L' (st.get t) v' ∧ subTE st L' r
def noAnyT : List (Nat × AV) → Bool
  | [] => true
  | (_, .any) :: _ => false
  | _ :: r => noAnyT r
theorem subTE_ok {st : St} {L' : Nat → Option Blk} : ∀ {l : List (Nat × AV)}, noAnyT l = true → subTE st L' l → subT st L' l
  | [], _, _ => trivial
  | (t, v') :: r, hn, h => by
    have h1 : v' ≠ .any := fun e => by subst e; simp [noAnyT] at hn
    have h2 : noAnyT r = true := by cases v' <;> first | exact hn | exact absurd rfl h1
    rcases slotE_ok h.1 with h3 | h3
    · exact absurd h3 h1
    · exact ⟨h3, subTE_ok h2 h.2⟩
def refOf : AV → Option AV
  | .ref a b c d => some (.ref a b c d)
  | .any => none
  | .bool _ => none
  | .int .. => none
  | .str _ => none
  | .agg _ => none
  | .tuple _ => none
  | .list .. => none
  | .own .. => none
  | .radr _ => none
  | .nils => none
  | .nil0 => none
  | .nilp => none
  | .nili => none
  | .nilf => none
  | .yld _ => none
  | .ptr .. => none
  | .it _ => none
  | .nxt .. => none
  | .clo .. => none
  | .cond .. => none
  | .iface .. => none
  | .mp _ => none
theorem refOf_any  : refOf (.any ) = none := rfl
theorem refOf_bool (b : Bool) : refOf (.bool b) = none := rfl
theorem refOf_int (k : IntKind) (n : Int) : refOf (.int k n) = none := rfl
theorem refOf_str (s : List UInt8) : refOf (.str s) = none := rfl
theorem refOf_agg (c : List AV) : refOf (.agg c) = none := rfl
theorem refOf_tuple (c : List AV) : refOf (.tuple c) = none := rfl
theorem refOf_list (n : Nat) (l : List AV) : refOf (.list n l) = none := rfl
theorem refOf_nils  : refOf (.nils ) = none := rfl
theorem refOf_nil0  : refOf (.nil0 ) = none := rfl
theorem refOf_nilp  : refOf (.nilp ) = none := rfl
theorem refOf_nili  : refOf (.nili ) = none := rfl
theorem refOf_nilf  : refOf (.nilf ) = none := rfl
theorem refOf_yld (i : Nat) : refOf (.yld i) = none := rfl
theorem refOf_ptr (a b c d : Nat) : refOf (.ptr a b c d) = none := rfl
theorem refOf_it (i : Nat) : refOf (.it i) = none := rfl
theorem refOf_clo (f : FuncId) (k : Nat) (l : List AV) : refOf (.clo f k l) = none := rfl
theorem refOf_cond (e : Bool) (v : AV) : refOf (.cond e v) = none := rfl
theorem refOf_mp (i : Nat) : refOf (.mp i) = none := rfl
theorem refOf_iface (t : TypeId) (v : AV) : refOf (.iface t v) = none := rfl
theorem refOf_radr (c : List AV) : refOf (.radr c) = none := rfl
theorem refOf_ref (a b c d : Nat) : refOf (.ref a b c d) = some (.ref a b c d) := rfl
theorem refOf_some {v x : AV} (h : refOf v = some x) : x = v ∧ ∃ a b c d, v = .ref a b c d := by
  cases v <;> simp only [refOf, Option.some.injEq, reduceCtorEq] at h
  exact ⟨h.symm, _, _, _, _, rfl⟩
def oneRef2 : List AV → Option AV → Option AV
  | [], o => o
  | _ :: _, _ => none
def oneRef : List AV → Option AV
  | [] => none
  | a :: r => oneRef2 r (refOf a)
theorem oneRef2_none (r : List AV) : oneRef2 r none = none := by cases r <;> rfl
theorem oneRef_some {l : List AV} {x : AV} (h : oneRef l = some x) : l = [x] ∧ ∃ a b c d, x = .ref a b c d := by
  cases l with
  | nil => cases h
  | cons a r =>
    cases r with
    | nil =>
      obtain ⟨rfl, h2⟩ := refOf_some (show refOf a = some x from h)
      exact ⟨rfl, h2⟩
    | cons b t => cases h
theorem oneRef_map {α : Type} {f : α → AV} (h : ∀ x, refOf (f x) = none) (l : List α) : oneRef (l.map f) = none := by
  cases l with
  | nil => rfl
  | cons a r => show oneRef2 _ (refOf (f a)) = none; rw [h, oneRef2_none]
theorem oneRef_append {α : Type} {f : α → AV} (h : ∀ x, refOf (f x) = none) (l : List α) (b : List AV) (hb : oneRef b = none) : oneRef (l.map f ++ b) = none := by
  cases l with
  | nil => exact hb
  | cons a r => show oneRef2 _ (refOf (f a)) = none; rw [h, oneRef2_none]
theorem oneRef_replicate (n : Nat) (v : AV) (h : refOf v = none) : oneRef (List.replicate n v) = none := by
  cases n with
  | zero => rfl
  | succ n => show oneRef2 _ (refOf v) = none; rw [h, oneRef2_none]
def refE (L L' : Nat → Option Blk) : List AV → AV → Prop
  | [y], v => slotE L L' y v
  | _, _ => False
def contX (L L' : Nat → Option Blk) (c c' : List AV) : Option AV → Prop
  | some v => refE L L' c v
  | none => c = c' ∧ contOK L' c'
def contE (L L' : Nat → Option Blk) (c c' : List AV) : Prop := contX L L' c c' (oneRef c')
theorem oneRef_nil : oneRef [] = none := rfl
theorem oneRef_cons (a : AV) (r : List AV) : oneRef (a :: r) = oneRef2 r (refOf a) := rfl
theorem oneRef2_nil (o : Option AV) : oneRef2 [] o = o := rfl
theorem contX_some {L L' : Nat → Option Blk} {c c' : List AV} {v : AV} : contX L L' c c' (some v) = refE L L' c v := rfl
theorem contX_none {L L' : Nat → Option Blk} {c c' : List AV} : contX L L' c c' none = (c = c' ∧ contOK L' c') := rfl
theorem refE_one {L L' : Nat → Option Blk} {y v : AV} : refE L L' [y] v = slotE L L' y v := rfl
theorem contE_ok {L L' : Nat → Option Blk} {c c' : List AV} (h : contE L L' c c') : (c = c' ∧ contOK L' c') ∨ contS L L' c c' := by
  unfold contE at h
  cases ho : oneRef c' with
  | none => rw [ho] at h; exact .inl h
  | some v =>
    rw [ho] at h
    obtain ⟨rfl, id', off', len', hw', rfl⟩ := oneRef_some ho
    simp only [contX] at h
    match c, h with
    | [y], h =>
      right
      simp only [refE] at h
      have hy : y.cells = [y] := by
        cases y <;> first | rfl | (simp only [slotE] at h)
      refine ⟨rfl, fun i x x' hx hx' => ?_⟩
      cases i with
      | succ i => simp at hx
      | zero =>
        simp at hx hx'
        subst hx; subst hx'
        refine ⟨by rw [hy]; rfl, fun j z z' hz hz' => ?_⟩
        cases j with
        | succ j => simp [AV.cells] at hz'
        | zero =>
          simp [AV.cells] at hz'
          subst hz'
          rw [hy] at hz
          simp at hz
          subst hz
          rcases slotE_ok h with h1 | h1
          · cases h1
          · exact h1
def blkE (L : Nat → Option Blk) (o : Option Blk) (L' : Nat → Option Blk) (b' : Blk) : Prop :=
  match b' with
  | .cells sz' ro' d' c' => match o with
    | some (.cells sz ro d c) => sz = sz' ∧ ro = ro' ∧ d = d' ∧ contE L L' c c'
    | none => ro' = false ∧ c' = []
    | _ => False
  | .iter s' p' => match o with
    | some (.iter s p) => s = s' ∧ p = p'
    | _ => False
  | .loop lc' st' pd' sl' => match o with
    | some (.loop lc st pd sl) => lc = lc' ∧ st = st' ∧ pd = pd' ∧ sl = sl' ∧ idsOKS L' sl'
    | _ => False
  | .defer => match o with
    | some .defer => True
    | _ => False
  | .map es' => match o with
    | some (.map es) => es = es'
    | _ => False
def subBE (L L' : Nat → Option Blk) : List (Nat × Blk) → Prop
  | [] => True
  | (id, b) :: r => blkE L (L id) L' b ∧ subBE L L' r
theorem subBE_ok {L L' : Nat → Option Blk} : ∀ {l : List (Nat × Blk)}, subBE L L' l → subB L L' l
  | [], _ => trivial
  | (id, b) :: r, h => by
    refine ⟨?_, subBE_ok h.2⟩
    have h1 := h.1
    unfold blkE at h1
    cases b with
    | cells sz' ro' d' c' =>
      simp only at h1
      split at h1
      · rename_i e
        obtain ⟨rfl, rfl, rfl, h2⟩ := h1
        rcases contE_ok h2 with ⟨rfl, h3⟩ | h3
        · exact .inl ⟨e, h3⟩
        · exact .inr (.inr ⟨_, _, _, _, _, e, rfl, h3⟩)
      · rename_i e
        obtain ⟨rfl, rfl⟩ := h1
        exact .inr (.inl ⟨e, _, _, rfl⟩)
      · exact h1.elim
    | iter s' p' =>
      simp only at h1
      split at h1
      · rename_i e
        obtain ⟨rfl, rfl⟩ := h1
        exact .inl ⟨e, trivial⟩
      · exact h1.elim
    | loop lc' st' pd' sl' =>
      simp only at h1
      split at h1
      · rename_i e
        obtain ⟨rfl, rfl, rfl, rfl, h2⟩ := h1
        exact .inl ⟨e, h2⟩
      · exact h1.elim
    | defer =>
      simp only at h1
      split at h1
      · rename_i e
        exact .inl ⟨e, trivial⟩
      · exact h1.elim
    | map es' =>
      simp only at h1
      split at h1
      · rename_i e
        subst h1
        exact .inl ⟨e, trivial⟩
      · exact h1.elim
def WeakE (m : Nat) (st st' : St) : Prop := noAnyT st'.tmps = true ∧ subTE st st'.lk st'.tmps ∧ subBE st.lk st'.lk st'.L ∧ extsOK st.lk st'.lk m
theorem WeakE.weak {m : Nat} {st st' : St} (h : WeakE m st st') : Weak m st st' := .base ⟨subTE_ok h.1 h.2.1, subBE_ok h.2.2.1, h.2.2.2⟩
def WeakS (m : Nat) : List (Nat × Nat) → St → St → Prop
  | [], s, t => WeakE m s t
  | (a, b) :: r, s, t => WeakS m r s t ∨ ((m ≤ a ∧ m ≤ b ∧ a ≠ defId ∧ b ≠ defId) ∧ WeakS m r (s.swap a b) t)
theorem WeakS_nil {m : Nat} {s t : St} : WeakS m [] s t = WeakE m s t := rfl
theorem WeakS_cons {m a b : Nat} {r : List (Nat × Nat)} {s t : St} : WeakS m ((a, b) :: r) s t = (WeakS m r s t ∨ ((m ≤ a ∧ m ≤ b ∧ a ≠ defId ∧ b ≠ defId) ∧ WeakS m r (s.swap a b) t)) := rfl
theorem WeakS.weak {m : Nat} : ∀ {sw : List (Nat × Nat)} {s t : St}, WeakS m sw s t → Weak m s t
  | [], s, t, h => WeakE.weak h
  | (a, b) :: r, s, t, h => by
    rcases h with h | ⟨⟨h1, h2, h3, h4⟩, h⟩
    · exact WeakS.weak h
    · exact .swap a b h1 h2 h3 h4 (WeakS.weak h)
theorem subTE_eq {s t : St} {L' : Nat → Option Blk} (he : StEq s t) : ∀ {l : List (Nat × AV)}, subTE s L' l → subTE t L' l
  | [], _ => trivial
  | (k, v) :: r, h => ⟨by have := h.1; rw [he.1, he.2] at this; exact this, subTE_eq he h.2⟩
theorem WeakE.eq {m : Nat} {s t x : St} (h : WeakE m s x) (he : StEq s t) : WeakE m t x :=
  ⟨h.1, subTE_eq he h.2.1, by rw [← he.2]; exact h.2.2.1, by rw [← he.2]; exact h.2.2.2⟩
end Go.Abs
end
section
set_option linter.unusedVariables false
set_option linter.unusedSimpArgs false
namespace Go.Abs
inductive Ex where
  | normal
  | exit (n : Nat)
  | ret
def unrollN (body : St → (Ex → St → Prop) → Prop) (Q : Ex → St → Prop) (base : St → Prop) : Nat → St → Prop
  | 0, st => base st
  | n + 1, st => body st fun e st' => match e with
    | .normal => unrollN body Q base n st'
    | e => Q e st'
def InvL (body : St → (Ex → St → Prop) → Prop) (m : Nat) (Q : Ex → St → Prop) (st : St) : Prop :=
  ∃ (X : Type) (emb : X → St) (I : X → Prop) (μ : X → Nat) (x0 : X), Weak m st (emb x0) ∧ I x0 ∧
    ∀ x, I x → body (emb x) fun e st' => match e with
      | .normal => ∃ x', Weak m st' (emb x') ∧ I x' ∧ μ x' < μ x
      | e => Q e st'
structure CutS where
  X : Type
  emb : X → St
  I : X → Prop
def fstR : Code → Nat
  | .region id _ _ => id
  | .seq a _ => fstR a
  | .block _ b => fstR b
  | .loop b => fstR b
  | _ => 1000000
def loopId : Nat := 999990
def dN : Nat := 999997
def WR2 (lc : LoopC) (st : St) (Q : Ex → St → Prop) : Prop :=
  match st.lk loopId with
  | some (.loop _ s pd sl) => s ≠ .busy ∧ (match pd with
    | none => Q .normal (st.upd [(loopId, .loop lc .exhausted pd sl)])
    | some .ret => Q .ret (st.upd [(loopId, .loop lc .exhausted pd sl)])
    | some (.exit i) => Q (.exit i) (st.upd [(loopId, .loop lc .exhausted pd sl)])
    | _ => False)
  | _ => False
def enterL (lc : LoopC) (st : St) : List (Nat × Blk) := (loopId, .loop lc .ready none st.tmps) :: (defId, .defer) :: st.L
def WR1 (P : Program) (C : Tbl) (g : Operand) (lc : LoopC) (st : St) (Q : Ex → St → Prop) : Prop :=
  match (st.ev g).un with
  | .clo f k cs => f ≠ yldF ∧ callable P f = true ∧ (st.ev g).uc ∧ st.lk defId = none ∧ st.lk loopId = none ∧
    (match evCallP C (lkB (enterL lc st)) 900000 f (cs.take k ++ (.yld loopId :: cs.drop k)) with
    | some (_, u, p) => p ∧ WR2 lc ⟨st.tmps, u ++ enterL lc st⟩ Q
    | none => False)
  | _ => False
def WR (P : Program) (C : Tbl) (D : Nat → List Nat) (m : Nat) (g : Operand) (ps : Array Tmp) (assign body : Code) (st : St) (Q : Ex → St → Prop) : Prop :=
  ∃ (st1 : St) (lc : LoopC), Weak m st st1 ∧ lc.ps = ps ∧ lc.assign = assign ∧ lc.body = body ∧ D dN = [lc.n] ∧ WR1 P C g lc st1 Q
def W (P : Program) (C : Tbl) (wr : Bool) (D : Nat → List Nat) (U : Nat → Option CutS) (m : Nat) : Code → St → (Ex → St → Prop) → Prop
  | .skip, st, Q => Q .normal st
  | .label _, st, Q => Q .normal st
  | .scope b, st, Q => W P C wr D U m b st Q
  | .region id ops draw, st, Q =>
    match draw with
    | false => Wops P C wr ops.toList ops.toList st (Q .normal)
    | true => WopsD P C wr ops.toList (D id) ops.toList 0 st (Q .normal)
  | .seq a b, st, Q => match U (fstR b) with
    | none => W P C wr D U m a st fun e st' => match e with
      | .normal => W P C wr D U m b st' Q
      | e => Q e st'
    | some k => (W P C wr D U m a st fun e st' => match e with
      | .normal => ∃ x, WeakE m st' (k.emb x) ∧ k.I x
      | e => Q e st') ∧ ∀ x, k.I x → W P C wr D U m b (k.emb x) Q
  | .cond c t f, st, Q => match (st.ev c).un with
    | .bool b => (st.ev c).uc ∧ (b = true → W P C wr D U m t st Q) ∧ (b = false → W P C wr D U m f st Q)
    | .own _ l => (st.ev c).uc ∧ (l = [] → W P C wr D U m t st Q) ∧ W P C wr D U m f st Q
    | _ => False
  | .block id b, st, Q => W P C wr D U m b st fun e st' => match e with
    | .exit i => if i = id then Q .normal st' else Q (.exit i) st'
    | e => Q e st'
  | .loop b, st, Q => ∃ n, unrollN (W P C wr D U m b) Q (InvL (W P C wr D U m b) m Q) n st
  | .exit i, st, Q => Q (.exit i) st
  | .ret, st, Q => Q .ret st
  | .rangeFunc g ps assign body, st, Q => WR P C D m g ps assign body st Q
  | _, _, _ => False
def noRF : Code → Bool
  | .seq a b => noRF a && noRF b
  | .cond _ t f => noRF t && noRF f
  | .block _ b => noRF b
  | .loop b => noRF b
  | .scope b => noRF b
  | .rangeFunc .. => false
  | _ => true
def codeOK (P : Program) (N : Nat) (D : Nat → List Nat) : Code → Bool
  | .region id ops draw => dstsOK N ops.toList && (!draw || drawB P ops.toList (D id))
  | .seq a b => codeOK P N D a && codeOK P N D b
  | .cond _ t f => codeOK P N D t && codeOK P N D f
  | .block _ b => codeOK P N D b
  | .loop b => codeOK P N D b
  | .scope b => codeOK P N D b
  | .rangeFunc .. => decide (D dN = [N])
  | _ => true
def Ex.of : Ex → Exit
  | .normal => .normal
  | .exit n => .exit n
  | .ret => .ret
theorem unrollN_mono {body : St → (Ex → St → Prop) → Prop} {Q Q' : Ex → St → Prop} {base base' : St → Prop} (hb : ∀ st R R', (∀ e s, R e s → R' e s) → body st R → body st R') (hQ : ∀ e s, Q e s → Q' e s) (hbase : ∀ s, base s → base' s) :
    ∀ n st, unrollN body Q base n st → unrollN body Q' base' n st
  | 0, st, h => hbase st h
  | n + 1, st, h => hb st _ _ (fun e s hr => by
      cases e with
      | normal => exact unrollN_mono hb hQ hbase n s hr
      | exit i => exact hQ _ _ hr
      | ret => exact hQ _ _ hr) h
section
variable {P : Program} {C : Tbl} {wr : Bool} {D : Nat → List Nat} {U : Nat → Option CutS} {m : Nat}
theorem Wop.mono {all o st} {K K' : St → Prop} (hK : ∀ s, K s → K' s) (h : Wop P C wr all o st K) : Wop P C wr all o st K' := by
  unfold Wop at h ⊢
  split at h
  · split at h
    · exact ⟨h.1, h.2.1, hK _ h.2.2⟩
    · exact h
  · split at h
    · split at h
      · exact ⟨h.1, hK _ h.2⟩
      · exact ⟨fun he => ⟨(h.1 he).1, (h.1 he).2.1, hK _ (h.1 he).2.2⟩, fun he => hK _ (h.2 he)⟩
      · exact ⟨h.1, hK _ h.2⟩
    · exact h
theorem WopQ.mono {all o st} {K K' : St → Prop} (hK : ∀ s, K s → K' s) (h : WopQ P C wr all o st K) : WopQ P C wr all o st K' := by
  unfold WopQ at h ⊢
  split at h
  · split at h
    · exact ⟨h.1, h.2.1, hK _ h.2.2⟩
    · exact h
  · split at h
    · split at h
      · exact ⟨h.1, hK _ h.2⟩
      · exact h
      · exact ⟨h.1, hK _ h.2⟩
    · exact h
theorem Wops.mono {all} {Q Q' : St → Prop} (hQ : ∀ s, Q s → Q' s) : ∀ l st, Wops P C wr all l st Q → Wops P C wr all l st Q'
  | [], st, h => hQ _ h
  | o :: r, st, h => Wop.mono (fun s hs => Wops.mono hQ r s hs) h
theorem WopsD.mono {all ser} {Q Q' : St → Prop} (hQ : ∀ s, Q s → Q' s) : ∀ l k st, WopsD P C wr all ser l k st Q → WopsD P C wr all ser l k st Q'
  | [], k, st, h => hQ _ h
  | o :: r, k, st, h => by
    simp only [WopsD] at h ⊢
    split at h
    · exact Wop.mono (fun s hs => ⟨hs.1, WopsD.mono hQ r (k + 1) s hs.2⟩) h
    · exact ⟨h.1, WopQ.mono (fun s hs => WopsD.mono hQ r (k + 1) s hs) h.2⟩
theorem WR2.mono {lc : LoopC} {st : St} {Q Q' : Ex → St → Prop} (hQ : ∀ e s, Q e s → Q' e s) (h : WR2 lc st Q) : WR2 lc st Q' := by
  unfold WR2 at h ⊢
  split at h
  · refine ⟨h.1, ?_⟩
    have h2 := h.2
    split at h2
    · exact hQ _ _ h2
    · exact hQ _ _ h2
    · exact hQ _ _ h2
    · exact h2.elim
  · exact h.elim
theorem WR.mono {g : Operand} {ps : Array Tmp} {assign body : Code} {st : St} {Q Q' : Ex → St → Prop} (hQ : ∀ e s, Q e s → Q' e s) (h : WR P C D m g ps assign body st Q) : WR P C D m g ps assign body st Q' := by
  obtain ⟨st1, lc, h1, h2, h3, h4, h5, h6⟩ := h
  refine ⟨st1, lc, h1, h2, h3, h4, h5, ?_⟩
  unfold WR1 at h6 ⊢
  split at h6
  · obtain ⟨g1, g2, g3, g4, g5, g6⟩ := h6
    refine ⟨g1, g2, g3, g4, g5, ?_⟩
    split at g6
    · exact ⟨g6.1, g6.2.mono hQ⟩
    · exact g6.elim
  · exact h6.elim
theorem W_mono : ∀ (c : Code) (st : St) (Q Q' : Ex → St → Prop), (∀ e s, Q e s → Q' e s) → W P C wr D U m c st Q → W P C wr D U m c st Q' := by
  intro c
  induction c with
  | skip => intro st Q Q' hQ h; exact hQ _ _ h
  | label l => intro st Q Q' hQ h; exact hQ _ _ h
  | scope b ih =>
    intro st Q Q' hQ h
    simp only [W] at h ⊢
    exact ih st Q Q' hQ h
  | region id ops draw =>
    intro st Q Q' hQ h
    simp only [W] at h ⊢
    split at h
    · exact Wops.mono (fun s hs => hQ _ _ hs) _ _ h
    · exact WopsD.mono (fun s hs => hQ _ _ hs) _ _ _ h
  | seq a b iha ihb =>
    intro st Q Q' hQ h
    simp only [W] at h ⊢
    split at h
    · refine iha _ _ _ (fun e s hs => ?_) h
      cases e with
      | normal => exact ihb _ _ _ hQ hs
      | exit i => exact hQ _ _ hs
      | ret => exact hQ _ _ hs
    · refine ⟨iha _ _ _ (fun e s hs => ?_) h.1, fun x hx => ihb _ _ _ hQ (h.2 x hx)⟩
      cases e with
      | normal => exact hs
      | exit i => exact hQ _ _ hs
      | ret => exact hQ _ _ hs
  | cond c t f iht ihf =>
    intro st Q Q' hQ h
    simp only [W] at h ⊢
    split at h
    · exact ⟨h.1, fun hb => iht _ _ _ hQ (h.2.1 hb), fun hb => ihf _ _ _ hQ (h.2.2 hb)⟩
    · exact ⟨h.1, fun hb => iht _ _ _ hQ (h.2.1 hb), ihf _ _ _ hQ h.2.2⟩
    · exact h
  | block id b ih =>
    intro st Q Q' hQ h
    simp only [W] at h ⊢
    refine ih _ _ _ (fun e s hs => ?_) h
    cases e with
    | normal => exact hQ _ _ hs
    | exit i =>
      by_cases hi : i = id
      · simp only [if_pos hi] at hs ⊢; exact hQ _ _ hs
      · simp only [if_neg hi] at hs ⊢; exact hQ _ _ hs
    | ret => exact hQ _ _ hs
  | loop b ih =>
    intro st Q Q' hQ h
    simp only [W] at h ⊢
    obtain ⟨n, hn⟩ := h
    refine ⟨n, unrollN_mono (fun st R R' hR hr => ih st R R' hR hr) hQ (fun s hs => ?_) n st hn⟩
    obtain ⟨X, emb, I, μ, x0, h1, h2, h3⟩ := hs
    refine ⟨X, emb, I, μ, x0, h1, h2, fun x hx => ih _ _ _ (fun e s hs => ?_) (h3 x hx)⟩
    cases e with
    | normal => exact hs
    | exit i => exact hQ _ _ hs
    | ret => exact hQ _ _ hs
  | exit i => intro st Q Q' hQ h; exact hQ _ _ h
  | ret => intro st Q Q' hQ h; exact hQ _ _ h
  | rangeFunc g ps assign body _ _ => intro st Q Q' hQ h; simp only [W] at h ⊢; exact h.mono hQ
  | _ => intros; simp_all [W]
theorem Wop.eq {all o} {s t : St} {K : St → Prop} (hK : ∀ s t, StEq s t → K s → K t) (he : StEq s t) (h : Wop P C wr all o s K) : Wop P C wr all o t K := by
  have e1 := he.ev
  have e2 := he.2
  have e3 : ∀ g, guardE s all g = guardE t all g := guardE_eq he.1
  have nx := fun u d v => hK _ _ (StEq.next he u d v)
  have nx0 := fun d v => hK _ _ (StEq.next he [] d v)
  unfold Wop at h ⊢
  rw [← e1, ← e2]
  split at h
  · split at h
    · exact ⟨h.1, h.2.1, nx _ _ _ h.2.2⟩
    · exact h
  · rename_i g hg
    rw [← e3]
    split at h
    · split at h
      · exact ⟨h.1, nx0 _ _ h.2⟩
      · exact ⟨fun he' => ⟨(h.1 he').1, (h.1 he').2.1, nx _ _ _ (h.1 he').2.2⟩, fun he' => nx0 _ _ (h.2 he')⟩
      · exact ⟨h.1, nx0 _ _ h.2⟩
    · exact h
theorem WopQ.eq {all o} {s t : St} {K : St → Prop} (hK : ∀ s t, StEq s t → K s → K t) (he : StEq s t) (h : WopQ P C wr all o s K) : WopQ P C wr all o t K := by
  have e1 := he.ev
  have e2 := he.2
  have e3 : ∀ g, guardE s all g = guardE t all g := guardE_eq he.1
  have nx0 := fun d v => hK _ _ (StEq.next he [] d v)
  unfold WopQ at h ⊢
  rw [← e1, ← e2]
  split at h
  · split at h
    · exact ⟨h.1, h.2.1, nx0 _ _ h.2.2⟩
    · exact h
  · rename_i g hg
    rw [← e3]
    split at h
    · split at h
      · exact ⟨h.1, nx0 _ _ h.2⟩
      · exact h
      · exact ⟨h.1, nx0 _ _ h.2⟩
    · exact h
theorem Wops.eq {all} {Q : St → Prop} (hQ : ∀ s t, StEq s t → Q s → Q t) : ∀ l s t, StEq s t → Wops P C wr all l s Q → Wops P C wr all l t Q
  | [], s, t, he, h => hQ _ _ he h
  | o :: r, s, t, he, h => Wop.eq (fun s t he hs => Wops.eq hQ r s t he hs) he h
theorem WopsD.eq {all ser} {Q : St → Prop} (hQ : ∀ s t, StEq s t → Q s → Q t) : ∀ l k s t, StEq s t → WopsD P C wr all ser l k s Q → WopsD P C wr all ser l k t Q
  | [], k, s, t, he, h => hQ _ _ he h
  | o :: r, k, s, t, he, h => by
    simp only [WopsD] at h ⊢
    split at h
    · have hsame : ∀ (l : List Nat) (x y x' y' : St), x.lk = x'.lk → y.lk = y'.lk → sameAt x y l → sameAt x' y' l := by
        intro l x y x' y' e1 e2
        induction l with
        | nil => exact id
        | cons B l ih => intro hx; exact ⟨by rw [← e1, ← e2]; exact hx.1, ih hx.2⟩
      refine Wop.eq (fun x y hxy hs => ⟨?_, WopsD.eq hQ r (k + 1) x y hxy hs.2⟩) he (Wop.mono (fun x hx => ⟨hsame _ _ _ _ _ he.2 rfl hx.1, hx.2⟩) h)
      exact hsame _ _ _ _ _ rfl hxy.2 hs.1
    · have hload : ∀ (l : List Nat), loadC C o.op s l → loadC C o.op t l := by
        intro l
        induction l with
        | nil => exact id
        | cons B l ih => intro hx; exact ⟨loadB_same (fun x _ => by rw [he.ev]) hx.1, ih hx.2⟩
      exact ⟨hload _ h.1, WopQ.eq (fun s t he hs => WopsD.eq hQ r (k + 1) s t he hs) he h.2⟩
theorem Weak0.eq {s t x : St} (he : StEq s t) (h : Weak0 m s x) : Weak0 m t x := by
  obtain ⟨h1, h2, h3⟩ := h
  have : ∀ l, subT s x.lk l → subT t x.lk l := by
    intro l
    induction l with
    | nil => intro h; exact h
    | cons a l ih => intro h; exact ⟨by rw [← he.2, ← he.1]; exact h.1, ih h.2⟩
  exact ⟨this _ h1, by rw [← he.2]; exact h2, by rw [← he.2]; exact h3⟩
theorem StEq.swap {s t : St} (a b : Nat) (he : StEq s t) : StEq (s.swap a b) (t.swap a b) := by
  refine ⟨?_, ?_⟩
  · funext i; rw [swap_get, swap_get, he.1]
  · funext i; rw [swap_lk, swap_lk, he.2]
theorem Weak.eq {s t x : St} (he : StEq s t) (h : Weak m s x) : Weak m t x := by
  induction h generalizing t with
  | base h => exact .base (h.eq he)
  | swap a b h1 h2 h3 h4 _ ih => exact .swap a b h1 h2 h3 h4 (ih (he.swap a b))
theorem unrollN_eq {body : St → (Ex → St → Prop) → Prop} {Q : Ex → St → Prop} {base : St → Prop}
    (hb : ∀ (R : Ex → St → Prop), (∀ e s t, StEq s t → R e s → R e t) → ∀ s t, StEq s t → body s R → body t R) (hQ : ∀ e s t, StEq s t → Q e s → Q e t) (hbase : ∀ s t, StEq s t → base s → base t) :
    ∀ n s t, StEq s t → unrollN body Q base n s → unrollN body Q base n t
  | 0, s, t, he, h => hbase s t he h
  | n + 1, s, t, he, h => hb _ (fun e s t he hr => by
      cases e with
      | normal => exact unrollN_eq hb hQ hbase n s t he hr
      | exit i => exact hQ _ _ _ he hr
      | ret => exact hQ _ _ _ he hr) s t he h
theorem W_eq : ∀ (c : Code) (Q : Ex → St → Prop), (∀ e s t, StEq s t → Q e s → Q e t) → ∀ s t, StEq s t → W P C wr D U m c s Q → W P C wr D U m c t Q := by
  intro c
  induction c with
  | skip => intro Q hQ s t he h; exact hQ _ _ _ he h
  | label l => intro Q hQ s t he h; exact hQ _ _ _ he h
  | scope b ih =>
    intro Q hQ s t he h
    simp only [W] at h ⊢
    exact ih Q hQ s t he h
  | region id ops draw =>
    intro Q hQ s t he h
    simp only [W] at h ⊢
    split at h
    · exact Wops.eq (fun s t he hs => hQ _ _ _ he hs) _ _ _ he h
    · exact WopsD.eq (fun s t he hs => hQ _ _ _ he hs) _ _ _ _ he h
  | seq a b iha ihb =>
    intro Q hQ s t he h
    simp only [W] at h ⊢
    split at h
    · refine iha _ (fun e s t he hs => ?_) s t he h
      cases e with
      | normal => exact ihb _ hQ _ _ he hs
      | exit i => exact hQ _ _ _ he hs
      | ret => exact hQ _ _ _ he hs
    · refine ⟨iha _ (fun e s t he hs => ?_) s t he h.1, h.2⟩
      cases e with
      | normal => obtain ⟨x, h1, h2⟩ := hs; exact ⟨x, h1.eq he, h2⟩
      | exit i => exact hQ _ _ _ he hs
      | ret => exact hQ _ _ _ he hs
  | cond c tt f iht ihf =>
    intro Q hQ s t he h
    simp only [W] at h ⊢
    rw [← he.ev]
    split at h
    · exact ⟨h.1, fun hb => iht _ hQ _ _ he (h.2.1 hb), fun hb => ihf _ hQ _ _ he (h.2.2 hb)⟩
    · exact ⟨h.1, fun hb => iht _ hQ _ _ he (h.2.1 hb), ihf _ hQ _ _ he h.2.2⟩
    · exact h
  | block id b ih =>
    intro Q hQ s t he h
    simp only [W] at h ⊢
    refine ih _ (fun e s t he hs => ?_) s t he h
    cases e with
    | normal => exact hQ _ _ _ he hs
    | exit i =>
      by_cases hi : i = id
      · simp only [if_pos hi] at hs ⊢; exact hQ _ _ _ he hs
      · simp only [if_neg hi] at hs ⊢; exact hQ _ _ _ he hs
    | ret => exact hQ _ _ _ he hs
  | loop b ih =>
    intro Q hQ s t he h
    simp only [W] at h ⊢
    obtain ⟨n, hn⟩ := h
    refine ⟨n, unrollN_eq (fun R hR s t he hr => ih R hR s t he hr) hQ (fun s t he hs => ?_) n s t he hn⟩
    obtain ⟨X, emb, I, μ, x0, h1, h2, h3⟩ := hs
    exact ⟨X, emb, I, μ, x0, h1.eq he, h2, h3⟩
  | exit i => intro Q hQ s t he h; exact hQ _ _ _ he h
  | ret => intro Q hQ s t he h; exact hQ _ _ _ he h
  | rangeFunc g ps assign body _ _ =>
    intro Q hQ s t he h
    simp only [W] at h ⊢
    obtain ⟨st1, lc, h1, h2⟩ := h
    exact ⟨st1, lc, h1.eq he, h2⟩
  | _ => intros; simp_all [W]
theorem stepR_scope {P : Program} {b : Frame} {a : Act} {k : List Item} {cs : List Frame} {w : World} {c : Code} : step P (lone (b.atR a (.code (.scope c) :: k)) cs w) = .next (lone (b.atR a (.code c :: .inScope c :: k)) cs w) :=
  step_lone_go (by simp [stepG, stepG.exec, Frame.atR])
theorem stepR_inScope {P : Program} {b : Frame} {a : Act} {k : List Item} {cs : List Frame} {w : World} {c : Code} : step P (lone (b.atR a (.inScope c :: k)) cs w) = .next (lone (b.atR a k) cs w) :=
  step_lone_go (by simp [stepG, stepG.exec, Frame.atR])
theorem wpIn_scope {F : Fence} {n : Nat} {P : Program} {Q : Exit → Act → World → Prop} {a : Act} {w : World} {c : Code} (hng : ∀ l a w, ¬ Q (.goto l) a w) (h : c.wpIn F n P Q a w) : (Code.scope c).wpIn F n P Q a w := by
  intro b k cs hro hb hr
  have h0 : (lone (b.atR a (.code (.scope c) :: k)) cs w).fenced P F := fenced_calm hb hr rfl
  obtain ⟨e, a₁, w₁, hq, harr⟩ := h b (.inScope c :: k) cs hro hb hr
  cases e with
  | normal => exact ⟨.normal, a₁, w₁, hq, .head h0 stepR_scope (StepsIn.trans harr (.one (fenced_calm hb hr rfl) stepR_inScope))⟩
  | exit id =>
    have hx : exitTo id (.inScope c :: k) = exitTo id k := by simp [exitTo]
    exact ⟨.exit id, a₁, w₁, hq, fun k' hk => .head h0 stepR_scope (harr.1 k' (by rw [hx]; exact hk)),
      fun hr' hk => let ⟨k₁, h1, h2⟩ := harr.2 hr' (by rw [hx]; exact hk); ⟨k₁, h1, .head h0 stepR_scope h2⟩⟩
  | goto l => exact (hng _ _ _ hq).elim
  | ret => exact ⟨_, a₁, w₁, hq, .of_steps (.one h0 stepR_scope) harr⟩
  | panic ch => exact ⟨_, a₁, w₁, hq, .of_steps (.one h0 stepR_scope) harr⟩
  | outgrown => exact ⟨_, a₁, w₁, hq, .of_steps (.one h0 stepR_scope) harr⟩
theorem wp_loop_rel {F : Fence} {nn : Nat} {c : Code} {Q : Exit → Act → World → Prop} {a : Act} {w : World} (I : Nat × Nat → Act → World → Prop) (n0 : Nat × Nat) (h₀ : I n0 a w)
    (round : ∀ n a w, I n a w → c.wpIn F nn P (Exit.then (fun a' w' => ∃ n', Prod.Lex (· < ·) (· < ·) n' n ∧ I n' a' w') Q) a w) : (Code.loop c).wpIn F nn P Q a w := by
  intro b k cs hro hb hr
  have key : ∀ n a w, I n a w → ∃ e a' w', Q e a' w' ∧ ArrivesIn (Machine.fenced P F) P (lone (b.atR a (.code c :: .inLoop c :: k)) cs w) b k cs e a' w' := by
    intro n
    refine WellFounded.induction (C := fun n => ∀ a w, I n a w → ∃ e a' w', Q e a' w' ∧ ArrivesIn (Machine.fenced P F) P (lone (b.atR a (.code c :: .inLoop c :: k)) cs w) b k cs e a' w')
      (Prod.lex (α := Nat) (β := Nat) ⟨_, Nat.lt_wfRel.wf⟩ ⟨_, Nat.lt_wfRel.wf⟩).wf n ?_
    intro n ih a w hI
    obtain ⟨e, a₁, w₁, hq, harr⟩ := round n a w hI b (.inLoop c :: k) cs hro hb hr
    cases e with
    | normal =>
      obtain ⟨n', hlt, hI₁⟩ := hq
      obtain ⟨e₂, a₂, w₂, hq₂, harr₂⟩ := ih n' hlt a₁ w₁ hI₁
      exact ⟨e₂, a₂, w₂, hq₂, .of_steps (StepsIn.trans harr (.one (fenced_calm hb hr rfl) stepR_inLoop)) harr₂⟩
    | exit id => exact ⟨_, a₁, w₁, hq, .pass (x := .inLoop c) rfl (fun _ _ => .inl (by simp)) harr⟩
    | goto l => exact ⟨_, a₁, w₁, hq, .pass (x := .inLoop c) rfl (fun _ _ => .inl (by simp)) harr⟩
    | ret => exact ⟨_, a₁, w₁, hq, .pass (x := .inLoop c) rfl (fun _ _ => .inl (by simp)) harr⟩
    | panic ch => exact ⟨_, a₁, w₁, hq, .pass (x := .inLoop c) rfl (fun _ _ => .inl (by simp)) harr⟩
    | outgrown => exact ⟨_, a₁, w₁, hq, .pass (x := .inLoop c) rfl (fun _ _ => .inl (by simp)) harr⟩
  obtain ⟨e, a', w', hq, harr⟩ := key _ a w h₀
  exact ⟨e, a', w', hq, .of_steps (.one (fenced_calm hb hr rfl) stepR_loop) harr⟩
variable {N : Nat} {L0 : Nat → Option Blk} {φ0 : Nat → Option Nat} {ok0 : Nat → Nat → Prop} {w0 : World}
def Post (N : Nat) (L0 : Nat → Option Blk) (φ0 : Nat → Option Nat) (ok0 : Nat → Nat → Prop) (w0 : World) (Q : Ex → St → Prop) : Exit → Act → World → Prop := fun e a w =>
  ∃ x st ok φ, e = Ex.of x ∧ Q x st ∧ Sim N L0 φ0 ok0 w0 st ok φ a w
theorem Sim.upd1 {st : St} {ok : Nat → Nat → Prop} {φ : Nat → Option Nat} {a : Act} {w w' : World} {u : List (Nat × Blk)} {ok' : Nat → Nat → Prop} {φ' : Nat → Option Nat}
    (h : Sim N L0 φ0 ok0 w0 st ok φ a w) (hx : Ext w0 (fun b => ∃ i, φ0 i = some b) st.lk ok φ w (st.upd u).lk ok' φ' w') : Sim N L0 φ0 ok0 w0 (st.upd u) ok' φ' a w' := by
  have := h.put (dst := none) rfl hx (v' := .any) (v := undef) (.pure _ _ (.any _))
  exact this
theorem WR1_wp {F : Fence} {nn : Nat} (hFw : F = Fence.wide) (hC : TblOK P C) {g : Operand} {lc : LoopC} {Q : Ex → St → Prop} {st : St} {ok : Nat → Nat → Prop} {φ : Nat → Option Nat} {a : Act} {w : World} (hn : lc.n = N)
    (h : WR1 P C g lc st Q) (hS : Sim N L0 φ0 ok0 w0 st ok φ a w) : (Code.rangeFunc g lc.ps lc.assign lc.body).wpIn F nn P (Post N L0 φ0 ok0 w0 Q) a w := by
  have hF : Good F := .inl hFw
  unfold WR1 at h
  split at h
  · rename_i f k cs hg
    obtain ⟨hy, hcl, huc, hd, hl, h⟩ := h
    split at h
    · rename_i v0 u p ho
      obtain ⟨hp, h⟩ := h
      have hgr := (hS.ev g).un huc
      rw [hg] at hgr
      obtain ⟨us, hgv, hul, hur⟩ : ∃ us : List Value, a.eval g = .func (.func f) (us.take k).toArray (us.drop k).toArray ∧ us.length = cs.length ∧ (∀ (i : Nat) (x : AV) (v : Value), cs[i]? = some x → us[i]? = some v → R w ok st.lk φ x v) := by
        generalize a.eval g = gv at hgr
        cases hgr with
        | pure _ _ h => cases h with | clo _ _ _ us hl h => exact ⟨us, rfl, hl, fun i x v hx hv => .pure _ _ (h i x v hx hv)⟩
        | clo _ _ _ us hl h => exact ⟨us, rfl, hl, h⟩
      obtain ⟨cur0, old0, hds, old1, old2, hcur⟩ := hS.defers
      have hc0 : cur0 = [] := by
        rcases hcur with h1 | ⟨b, h1, _⟩
        · exact h1
        · rw [hd] at h1; cases h1
      rw [hc0, List.nil_append] at hds
      refine wpIn_rangeFunc (fun fn hfn => ?_)
      have hro : F.round = none := by rw [hFw]; rfl
      rw [hro]
      -- the two blocks
      obtain ⟨rec, hrec⟩ : ∃ rec : Loop, rec = { state := .ready, pending := none, fn, tmps := a.tmps, params := lc.ps, assign := lc.assign, body := lc.body, defers := w.heap.size } := ⟨_, rfl⟩
      have x1 := Ext.new (w0 := w0) (X := fun b => ∃ i, φ0 i = some b) (blk := .defer) (id := defId) hS.heap hS.frame.size hd (Grow.alloc w (.deferred (some []))) (.inr .defer)
      have e1 : (st.upd [(defId, .defer)]).lk = updL st.lk defId .defer := lk_upd1 ..
      rw [← e1] at x1
      have S1 := hS.upd1 x1
      have hl1 : (st.upd [(defId, .defer)]).lk loopId = none := by rw [e1]; simp only [updL]; rw [if_neg (by decide)]; exact hl
      have x2 := Ext.new (w0 := w0) (X := fun b => ∃ i, φ0 i = some b) (blk := .loop lc .ready none st.tmps) (id := loopId) S1.heap S1.frame.size hl1 (Grow.alloc (w.alloc (.deferred (some []))) (.loop rec))
        (.inr (.loop _ _ _ _ _ ⟨by rw [hrec], by rw [hrec], by rw [hrec], by rw [hrec], by rw [hrec], by rw [hrec]; simp only; rw [hS.size, hn], fun t => by rw [hrec]; exact S1.slots t⟩))
      have e2 : ((st.upd [(defId, .defer)]).upd [(loopId, .loop lc .ready none st.tmps)]).lk = updL (st.upd [(defId, .defer)]).lk loopId (.loop lc .ready none st.tmps) := lk_upd1 ..
      rw [← e2] at x2
      have S2 := S1.upd1 x2
      have hLe : ((st.upd [(defId, .defer)]).upd [(loopId, .loop lc .ready none st.tmps)]) = ⟨st.tmps, enterL lc st⟩ := rfl
      rw [hLe] at S2 x2
      generalize hφ2 : updP (updP φ defId (some w.heap.size)) loopId (some (w.alloc (.deferred (some []))).heap.size) = φ2 at S2 x2
      have hφl : φ2 loopId = some (w.heap.size + 1) := by rw [← hφ2]; simp [updP]
      have hφd : φ2 defId = some w.heap.size := by rw [← hφ2]; simp [updP, loopId, defId]
      generalize hW1 : (w.alloc (.deferred (some []))).alloc (.loop rec) = W1 at S2 x2
      have hkeep : ∀ x v, R w ok st.lk φ x v → R W1 ok (St.lk ⟨st.tmps, enterL lc st⟩) φ2 x v := fun x v hr => (hr.keep x1.keeps).keep x2.keeps
      have hyr : R W1 ok (St.lk ⟨st.tmps, enterL lc st⟩) φ2 (.yld loopId) (.func (.yield (w.heap.size + 1)) #[] #[]) :=
        .yld loopId lc .ready none st.tmps (w.heap.size + 1) (by simp [St.lk, enterL, lkB]) hφl
      have hcalls := evCallP_ok (w0 := w0) (X := fun b => ∃ i, φ0 i = some b) (vs := us.take k ++ (.func (.yield (w.heap.size + 1)) #[] #[] :: us.drop k)) hC (L := St.lk ⟨st.tmps, enterL lc st⟩) (Lst := enterL lc st) rfl ho hp S2.heap (by simp [hul]) (fun i x v hx hv => by
        rw [List.getElem?_append] at hx hv
        have hlen : (us.take k).length = (cs.take k).length := by simp [hul]
        rw [hlen] at hv
        split at hx
        · rename_i hlt
          rw [if_pos hlt] at hv
          rw [List.getElem?_take] at hx hv
          split at hx
          · rename_i hk
            rw [if_pos hk] at hv
            exact hkeep _ _ (hur _ _ _ hx hv)
          · simp at hx
        · rename_i hlt
          rw [if_neg hlt] at hv
          cases hi : i - (cs.take k).length with
          | zero => rw [hi] at hx hv; simp at hx hv; subst hx; subst hv; exact hyr
          | succ j =>
            rw [hi] at hx hv
            simp only [List.getElem?_cons_succ, List.getElem?_drop] at hx hv
            exact hkeep _ _ (hur _ _ _ hx hv))
      have hargs : (us.take k).toArray ++ #[Value.func (.yield (w.heap.size + 1)) #[] #[]] ++ (us.drop k).toArray = (us.take k ++ (.func (.yield (w.heap.size + 1)) #[] #[] :: us.drop k)).toArray := by
        apply Array.ext'; simp
      refine ⟨w.heap.size + 1, markOf w.heap.size, W1, { target := .fn (.func f) (us.drop k).toArray, args := (us.take k).toArray ++ #[.func (.yield (w.heap.size + 1)) #[] #[]] }, W1, f,
        (us.take k ++ (.func (.yield (w.heap.size + 1)) #[] #[] :: us.drop k)).toArray, W1, ?_, ?_, fun f' _ => hF.fn f', ?_, hF.deep, ?_⟩
      · rw [← hW1, hrec]; exact run_enterLoop_outer _ _ _ _ _
      · simp [resolve, hgv, Deferred.ofValue]; rfl
      · simp only [invoke]
        rw [hargs]
        exact run_callFunc hcl
      · refine CallsIn.mono (hF.calls (hcalls.toCalls hcl hy)) ?_
        rintro e w' ⟨v, ok', φ', rfl, hx, _⟩
        have e3 : (St.upd ⟨st.tmps, enterL lc st⟩ u).lk = lkB (u ++ enterL lc st) := rfl
        rw [← e3] at hx
        have S3 := S2.upd1 hx
        obtain ⟨b', k1, k2, k3⟩ := hx.keeps.obj loopId (.loop lc .ready none st.tmps) (by simp [St.lk, enterL, lkB]) rfl
        rw [hφl] at k3
        obtain ⟨bd, d1, d2, d3⟩ := hx.keeps.obj defId .defer (by simp [St.lk, enterL, lkB, loopId, defId]) rfl
        rw [hφd] at d3
        unfold WR2 at h
        have e4 : (St.mk st.tmps (u ++ enterL lc st)) = St.upd ⟨st.tmps, enterL lc st⟩ u := rfl
        rw [e4] at h
        split at h
        · rename_i lc' s pd sl hlk
          rw [k1] at hlk
          cases hlk
          simp only [Blk.same] at k2
          subst k2
          obtain ⟨hs, h⟩ := h
          obtain ⟨l1, o1, g1, g2, g3⟩ := S3.heap.obj loopId _ k1 rfl
          rw [k3] at g1
          cases g1
          cases g3 with
          | loop _ _ _ _ r hr =>
            have hend := run_endLoop (P := P) g2 (by rw [hr.state]; exact hs)
            have hwr : Wr (w.heap.size + 1) w' (w'.putObj (w.heap.size + 1) (.loop { r with state := .exhausted })) :=
              ⟨rfl, rfl, rfl, by simp, fun k hk => World.putObj_heap_other hk⟩
            have x4 := Ext.wrote (w0 := w0) (X := fun b => ∃ i, φ0 i = some b) (blk := .loop lc .exhausted pd sl) S3.heap k3 hwr
              (.inr ⟨_, _, k1, rfl, World.putObj_heap_same (Array.getElem?_eq_some_iff.1 g2).1, .loop _ _ _ _ _ ⟨rfl, hr.pending, hr.params, hr.assign, hr.body, hr.size, hr.slots⟩⟩)
            have e5 : ((St.upd ⟨st.tmps, enterL lc st⟩ u).upd [(loopId, .loop lc .exhausted pd sl)]).lk = updL (St.upd ⟨st.tmps, enterL lc st⟩ u).lk loopId (.loop lc .exhausted pd sl) := lk_upd1 ..
            rw [← e5] at x4
            have S4 := S3.upd1 x4
            have S5 : Sim N L0 φ0 ok0 w0 ((St.upd ⟨st.tmps, enterL lc st⟩ u).upd [(loopId, .loop lc .exhausted pd sl)]) ok' φ' { a with defers := markOf w.heap.size ++ a.defers } (w'.putObj (w.heap.size + 1) (.loop { r with state := .exhausted })) := by
              refine ⟨S4.slots, S4.size, ⟨markOf w.heap.size, old0, by rw [hds], old1, fun b hb => ⟨(old2 b hb).1, x4.still _ (hx.still _ (x2.still _ (x1.still _ (old2 b hb).2)))⟩, .inr ⟨w.heap.size, ?_, d3, hS.frame.size, rfl⟩⟩, S4.heap, S4.kept, S4.frame, S4.own, S4.okDn⟩
              rw [e5]
              simp only [updL]
              rw [if_neg (by decide), d1]
              cases bd <;> simp only [Blk.same] at d2
              rfl
            clear x4 S4 hwr e5
            generalize w'.putObj (w.heap.size + 1) (.loop { r with state := .exhausted }) = W4 at S5 hend
            rw [hr.pending] at hend
            refine ⟨pd, W4, hend, ?_⟩
            split at h
            · exact ⟨.normal, _, _, _, rfl, h, S5⟩
            · exact wpIn_ret ⟨.ret, _, _, _, rfl, h, S5⟩
            · exact wpIn_exit ⟨.exit _, _, _, _, rfl, h, S5⟩
            · exact h.elim
        · exact h.elim
    · exact h.elim
  · exact h.elim
theorem W_wp {F : Fence} {nn : Nat} (hF : Good F) (hm : P.follows .mixedOrders = true) (hC : TblOK P C) (hL0 : ∀ i, L0 i ≠ none → i < m) : ∀ (c : Code) (Q : Ex → St → Prop) (st : St) (ok : Nat → Nat → Prop) (φ : Nat → Option Nat) (a : Act) (w : World),
    (F = Fence.wide ∨ noRF c = true) → codeOK P N D c = true → (∀ e s t, StEq s t → Q e s → Q e t) → W P C wr D U m c st Q → Sim N L0 φ0 ok0 w0 st ok φ a w → c.wpIn F nn P (Post N L0 φ0 ok0 w0 Q) a w := by
  intro c
  induction c with
  | skip => intro Q st ok φ a w hN hc hQ h hS; exact wpIn_skip ⟨.normal, st, ok, φ, rfl, h, hS⟩
  | label l => intro Q st ok φ a w hN hc hQ h hS; exact wpIn_label ⟨.normal, st, ok, φ, rfl, h, hS⟩
  | scope b ih =>
    intro Q st ok φ a w hN hc hQ h hS
    simp only [W] at h
    simp only [codeOK] at hc
    refine wpIn_scope (fun l a w hp => ?_) (ih Q st ok φ a w (hN.imp (fun h => h) (fun h => by simpa only [noRF] using h)) hc hQ h hS)
    obtain ⟨e', _, _, _, he, _, _⟩ := hp
    cases e' <;> cases he
  | region id ops draw =>
    intro Q st ok φ a w hN hc hQ h hS
    simp only [W] at h
    simp only [codeOK, Bool.and_eq_true] at hc
    obtain ⟨hc, hdr⟩ := hc
    split at h
    · exact wpIn_region_list (Wops.wpList hF rfl hC ops.toList st ok φ a w hc h hS (fun st' ok' φ' a' w' hq hS' => ⟨.normal, st', ok', φ', rfl, hq, hS'⟩))
    · exact wp_drawn hF hm hC hc (by simpa using hdr) (fun s t he hs => hQ _ _ _ he hs) h hS (fun st' ok' φ' a' w' hq hS' => ⟨.normal, st', ok', φ', rfl, hq, hS'⟩)
  | seq x y ihx ihy =>
    intro Q st ok φ a w hN hc hQ h hS
    simp only [W] at h
    simp only [codeOK, Bool.and_eq_true] at hc
    split at h
    · refine wpIn_seq (wpIn_mono (ihx _ st ok φ a w (hN.imp (fun h => h) (fun h => by simp only [noRF, Bool.and_eq_true] at h; exact h.1)) hc.1 (fun e s t he hs => ?_) h hS) (fun e a' w' hp => ?_))
      · cases e with
        | normal => exact W_eq y _ hQ _ _ he hs
        | exit i => exact hQ _ _ _ he hs
        | ret => exact hQ _ _ _ he hs
      · obtain ⟨e', st', ok', φ', rfl, hq, hS'⟩ := hp
        cases e' with
        | normal => exact ihy Q st' ok' φ' a' w' (hN.imp (fun h => h) (fun h => by simp only [noRF, Bool.and_eq_true] at h; exact h.2)) hc.2 hQ hq hS'
        | exit i => exact ⟨.exit i, st', ok', φ', rfl, hq, hS'⟩
        | ret => exact ⟨.ret, st', ok', φ', rfl, hq, hS'⟩
    · obtain ⟨h, hk⟩ := h
      refine wpIn_seq (wpIn_mono (ihx _ st ok φ a w (hN.imp (fun h => h) (fun h => by simp only [noRF, Bool.and_eq_true] at h; exact h.1)) hc.1 (fun e s t he hs => ?_) h hS) (fun e a' w' hp => ?_))
      · cases e with
        | normal => obtain ⟨x, h1, h2⟩ := hs; exact ⟨x, h1.eq he, h2⟩
        | exit i => exact hQ _ _ _ he hs
        | ret => exact hQ _ _ _ he hs
      · obtain ⟨e', st', ok', φ', rfl, hq, hS'⟩ := hp
        cases e' with
        | normal =>
          obtain ⟨x, h1, h2⟩ := hq
          obtain ⟨ok2, φ2, hS2⟩ := hS'.weak hL0 h1.weak
          exact ihy Q _ ok2 φ2 a' w' (hN.imp (fun h => h) (fun h => by simp only [noRF, Bool.and_eq_true] at h; exact h.2)) hc.2 hQ (hk x h2) hS2
        | exit i => exact ⟨.exit i, st', ok', φ', rfl, hq, hS'⟩
        | ret => exact ⟨.ret, st', ok', φ', rfl, hq, hS'⟩
  | cond c t f iht ihf =>
    intro Q st ok φ a w hN hc hQ h hS
    simp only [W] at h
    simp only [codeOK, Bool.and_eq_true] at hc
    split at h
    · rename_i b hb
      have hv := (hS.ev c).un h.1
      rw [hb] at hv
      refine wpIn_cond_split hv.boolInv (fun e => ?_) (fun e => ?_)
      · exact iht Q st ok φ a w (hN.imp (fun h => h) (fun h => by simp only [noRF, Bool.and_eq_true] at h; exact h.1)) hc.1 hQ (h.2.1 e) hS
      · exact ihf Q st ok φ a w (hN.imp (fun h => h) (fun h => by simp only [noRF, Bool.and_eq_true] at h; exact h.2)) hc.2 hQ (h.2.2 e) hS
    · rename_i sz l hb
      have hv := (hS.ev c).un h.1
      rw [hb] at hv
      obtain ⟨b, hbv, hbl⟩ := hv.ownInv
      refine wpIn_cond_split hbv (fun e => ?_) (fun e => ?_)
      · exact iht Q st ok φ a w (hN.imp (fun h => h) (fun h => by simp only [noRF, Bool.and_eq_true] at h; exact h.1)) hc.1 hQ (h.2.1 (hbl e)) hS
      · exact ihf Q st ok φ a w (hN.imp (fun h => h) (fun h => by simp only [noRF, Bool.and_eq_true] at h; exact h.2)) hc.2 hQ h.2.2 hS
    · exact h.elim
  | block id b ih =>
    intro Q st ok φ a w hN hc hQ h hS
    simp only [W] at h
    simp only [codeOK] at hc
    refine wpIn_block (wpIn_mono (ih _ st ok φ a w (hN.imp (fun h => h) (fun h => by simpa only [noRF] using h)) hc (fun e s t he hs => ?_) h hS) (fun e a' w' hp => ?_))
    · cases e with
      | normal => exact hQ _ _ _ he hs
      | exit i =>
        by_cases hi : i = id
        · simp only [if_pos hi] at hs ⊢; exact hQ _ _ _ he hs
        · simp only [if_neg hi] at hs ⊢; exact hQ _ _ _ he hs
      | ret => exact hQ _ _ _ he hs
    · obtain ⟨e', st', ok', φ', rfl, hq, hS'⟩ := hp
      cases e' with
      | normal => exact ⟨.normal, st', ok', φ', rfl, hq, hS'⟩
      | exit i =>
        simp only [Ex.of, Exit.inBlock]
        by_cases hi : i = id
        · simp only [if_pos hi] at hq ⊢; exact ⟨.normal, st', ok', φ', rfl, hq, hS'⟩
        · simp only [if_neg hi] at hq ⊢; exact ⟨.exit i, st', ok', φ', rfl, hq, hS'⟩
      | ret => exact ⟨.ret, st', ok', φ', rfl, hq, hS'⟩
  | loop b ih =>
    intro Q st ok φ a w hN hc hQ h hS
    simp only [W] at h
    simp only [codeOK] at hc
    obtain ⟨n, hn⟩ := h
    -- the relation: so many rounds unrolled, or the invariant
    let I : Nat × Nat → Act → World → Prop := fun k a w => ∃ st ok φ, Sim N L0 φ0 ok0 w0 st ok φ a w ∧
      ((0 < k.1 ∧ unrollN (W P C wr D U m b) Q (InvL (W P C wr D U m b) m Q) k.1 st) ∨
       (k.1 = 0 ∧ ∃ (X : Type) (emb : X → St) (J : X → Prop) (μ : X → Nat) (x : X), Weak m st (emb x) ∧ J x ∧ k.2 = μ x ∧ ∀ x, J x → W P C wr D U m b (emb x) fun e st' => match e with
          | .normal => ∃ x', Weak m st' (emb x') ∧ J x' ∧ μ x' < μ x
          | e => Q e st'))
    have start : ∀ n st ok φ a w, unrollN (W P C wr D U m b) Q (InvL (W P C wr D U m b) m Q) n st → Sim N L0 φ0 ok0 w0 st ok φ a w → ∃ k, I (n, k) a w := by
      intro n st ok φ a w hn hS
      cases n with
      | zero =>
        obtain ⟨X, emb, J, μ, x0, h1, h2, h3⟩ := hn
        exact ⟨μ x0, st, ok, φ, hS, .inr ⟨rfl, X, emb, J, μ, x0, h1, h2, rfl, h3⟩⟩
      | succ n => exact ⟨0, st, ok, φ, hS, .inl ⟨Nat.succ_pos _, hn⟩⟩
    obtain ⟨k0, hk0⟩ := start n st ok φ a w hn hS
    refine wp_loop_rel I (n, k0) hk0 ?_
    rintro ⟨n, k⟩ a w ⟨st, ok, φ, hS, hI⟩
    rcases hI with ⟨hp, hu⟩ | ⟨hz, X, emb, J, μ, x, h1, h2, h4, h3⟩
    · obtain ⟨n, rfl⟩ : ∃ n', n = n' + 1 := ⟨n - 1, by simp only at hp; omega⟩
      simp only [unrollN] at hu
      refine wpIn_mono (ih _ st ok φ a w (hN.imp (fun h => h) (fun h => by simpa only [noRF] using h)) hc (fun e s t he hs => ?_) hu hS) (fun e a' w' hp => ?_)
      · cases e with
        | normal =>
          refine unrollN_eq (fun R hR s t he hr => W_eq b R hR s t he hr) hQ (fun s t he hs => ?_) n s t he hs
          obtain ⟨X, emb, I, μ, x0, h1, h2, h3⟩ := hs
          exact ⟨X, emb, I, μ, x0, h1.eq he, h2, h3⟩
        | exit i => exact hQ _ _ _ he hs
        | ret => exact hQ _ _ _ he hs
      · obtain ⟨e', st', ok2, φ2, rfl, hq, hS2⟩ := hp
        cases e' with
        | normal =>
          obtain ⟨k', hk'⟩ := start n st' ok2 φ2 a' w' hq hS2
          exact ⟨(n, k'), Prod.Lex.left _ _ (Nat.lt_succ_self n), hk'⟩
        | exit i => exact ⟨.exit i, st', ok2, φ2, rfl, hq, hS2⟩
        | ret => exact ⟨.ret, st', ok2, φ2, rfl, hq, hS2⟩
    · simp only at hz h4
      subst hz; subst h4
      obtain ⟨ok', φ', hS'⟩ := hS.weak hL0 h1
      refine wpIn_mono (ih _ (emb x) ok' φ' a w (hN.imp (fun h => h) (fun h => by simpa only [noRF] using h)) hc (fun e s t he hs => ?_) (h3 x h2) hS') (fun e a' w' hp => ?_)
      · cases e with
        | normal =>
          obtain ⟨x', g1, g2, g3⟩ := hs
          exact ⟨x', g1.eq he, g2, g3⟩
        | exit i => exact hQ _ _ _ he hs
        | ret => exact hQ _ _ _ he hs
      · obtain ⟨e', st', ok2, φ2, rfl, hq, hS2⟩ := hp
        cases e' with
        | normal =>
          obtain ⟨x', g1, g2, g3⟩ := hq
          exact ⟨(0, μ x'), Prod.Lex.right _ g3, st', ok2, φ2, hS2, .inr ⟨rfl, X, emb, J, μ, x', g1, g2, rfl, h3⟩⟩
        | exit i => exact ⟨.exit i, st', ok2, φ2, rfl, hq, hS2⟩
        | ret => exact ⟨.ret, st', ok2, φ2, rfl, hq, hS2⟩
  | exit i => intro Q st ok φ a w hN hc hQ h hS; exact wpIn_exit ⟨.exit i, st, ok, φ, rfl, h, hS⟩
  | ret => intro Q st ok φ a w hN hc hQ h hS; exact wpIn_ret ⟨.ret, st, ok, φ, rfl, h, hS⟩
  | rangeFunc g ps assign body _ _ =>
    intro Q st ok φ a w hN hc hQ h hS
    have hFw : F = Fence.wide := by
      rcases hN with h1 | h1
      · exact h1
      · simp [noRF] at h1
    simp only [codeOK, decide_eq_true_eq] at hc
    simp only [W] at h
    obtain ⟨st1, lc, hwk, rfl, rfl, rfl, hdn, h⟩ := h
    obtain ⟨ok1, φ1, hS1⟩ := hS.weak hL0 hwk
    exact WR1_wp hFw hC (by rw [hc] at hdn; simpa using hdn.symm) h hS1
  | _ => intro Q st ok φ a w hN hc hQ h hS; simp [W] at h
end
end Go.Abs
end
