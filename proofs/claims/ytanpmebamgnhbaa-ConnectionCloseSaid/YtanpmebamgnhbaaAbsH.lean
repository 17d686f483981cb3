/- append, copy, the steps of an iterator. No condition. -/
import Derived.Test.YtanpmebamgnhbaaAbsG
set_option linter.unusedVariables false
set_option linter.unusedSimpArgs false
namespace Go.Abs

/-! ### an iterator over a text -/
def efRange (P : Program) (L : Nat → Option Blk) (id : Nat) (t : TypeId) (x : AV) : Option (AV × Nat × Blk × Prop) :=
  match P.underlying t, L id, x with
  | some .string, none, .str s => some (.it id, id, .iter s 0, True)
  | _, _, _ => none

theorem efRange_ok {P L id t x v' id' blk p w0 X ok φ w vx} (h : efRange P L id t x = some (v', id', blk, p)) (hp : p) (hh : HeapOK w ok L φ) (hw0 : w0.heap.size ≤ w.heap.size)
    (hx : R w ok L φ x vx) : EffOK P w0 X (Instr.range t vx) L ok φ w v' id' blk := by
  unfold efRange at h
  split at h <;> simp only [Option.some.injEq, reduceCtorEq, Prod.mk.injEq] at h
  rename_i s hu hL
  obtain ⟨rfl, rfl, rfl, rfl⟩ := h
  obtain rfl : vx = .string ⟨s.toArray⟩ := by cases hx with | pure _ _ h => cases h; rfl
  have hext := Ext.new (w0 := w0) (X := X) (blk := .iter s 0) hh hw0 hL (Grow.alloc w (.stringIter ⟨s.toArray⟩ 0)) (.inr (.iter s 0))
  exact ⟨.pointer (some ⟨w.heap.size, 0, none⟩), _, _, by simp [Instr.range, run_underlying hu], hext, .it id s 0 w.heap.size (by simp [updL]) (by simp [updP])⟩

def runeAt (s : List UInt8) (pos : Nat) : Int × Nat := let r := Utf8.decode ⟨s.toArray⟩ pos; (r.1, r.2)

def efNext (L : Nat → Option Blk) (x : AV) : Option (AV × Nat × Blk × Prop) :=
  match x with
  | .it id => match L id with
    | some (.iter s pos) => some (.nxt (decide (pos < s.length)) pos (runeAt s pos).1, id, .iter s (if pos < s.length then pos + (runeAt s pos).2 else pos), True)
    | _ => none
  | _ => none

theorem efNext_ok {P L x v' id blk p w0 X ok φ w vx ty} (h : efNext L x = some (v', id, blk, p)) (hp : p) (hh : HeapOK w ok L φ) (hx : R w ok L φ x vx) :
    EffOK P w0 X (Instr.next vx true ty) L ok φ w v' id blk := by
  unfold efNext at h
  split at h
  · rename_i id'
    split at h <;> simp only [Option.some.injEq, reduceCtorEq, Prod.mk.injEq] at h
    rename_i s pos hL
    obtain ⟨rfl, rfl, rfl, rfl⟩ := h
    obtain ⟨s', pos', b, hL', hb, rfl⟩ : ∃ s' pos' b, L id' = some (.iter s' pos') ∧ φ id' = some b ∧ vx = .pointer (some ⟨b, 0, none⟩) := by
      cases hx with
      | pure _ _ h => cases h
      | it _ s pos b hL hφ => exact ⟨s, pos, b, hL, hφ, rfl⟩
    rw [hL] at hL'; cases hL'
    rcases hh.live hb with ⟨_, _, _, _, _, _, _, _, _, h1, _⟩ | ⟨blk1, o1, h1, h2, h3⟩
    · rw [hL] at h1; cases h1
    · rw [hL] at h1; cases h1; cases h3
      have hlt : b < w.heap.size := hh.lt hb
      have hsz : (ByteArray.mk s.toArray).size = s.length := by simp [ByteArray.size]
      have hget : (getObj b).run P w = .ok (.stringIter ⟨s.toArray⟩ pos) w := by simp [getObj, Sem.run, h2]
      by_cases hp' : pos < s.length
      · let w' : World := { w with heap := w.heap.setIfInBounds b (.stringIter ⟨s.toArray⟩ (pos + (runeAt s pos).2)) }
        have hset : (setObj b (.stringIter ⟨s.toArray⟩ (pos + (runeAt s pos).2))).run P w = .ok () w' := by simp [setObj, Sem.run, h2, w']
        have hwr : Wr b w w' := ⟨rfl, rfl, rfl, by simp [w'], fun k hk => by simp [w', Array.getElem?_setIfInBounds_ne (Ne.symm hk)]⟩
        have hnew : w'.heap[b]? = some (.stringIter ⟨s.toArray⟩ (pos + (runeAt s pos).2)) := by simp [w', hlt]
        refine ⟨.tuple #[.bool true, .int .i64 pos, .int .i32 (runeAt s pos).1], w', φ, ?_, ?_, ?_⟩
        · simp only [Instr.next, Sem.run_bind, hget, Result.andThen_ok, hsz, if_pos hp']
          rw [show (Utf8.decode ⟨s.toArray⟩ pos).2 = (runeAt s pos).2 from rfl, hset]
          rfl
        · rw [if_pos hp']
          exact Ext.wrote hh hb hwr (.inr ⟨_, _, hL, rfl, hnew, .iter _ _⟩)
        · rw [decide_eq_true hp']; exact .pure _ _ (.nxtT _ _)
      · refine ⟨.tuple #[.bool false], w, φ, ?_, ?_, ?_⟩
        · simp only [Instr.next, Sem.run_bind, hget, Result.andThen_ok, hsz, if_neg hp', Sem.run_pure]
        · rw [if_neg hp']
          exact Ext.wrote hh hb (Wr.refl b w) (.inr ⟨_, _, hL, rfl, h2, .iter _ _⟩)
        · rw [decide_eq_false hp']; exact .pure _ _ (.nxtF _ _)
  · simp at h

/-! ### append -/
/-- A block that grew in place. -/
theorem Ext.grew {w0 X L ok φ w w' id b sz ro d c l vs0 vs rest rest' e lo hi} (h : HeapOK w ok L φ) (hL : L id = some (.cells sz ro d c)) (hb : φ id = some b) (hw : Wr b w w')
    (hold : w.heap[b]? = some (.cells (vs0 ++ rest).toArray e (lo, hi))) (hnew : w'.heap[b]? = some (.cells (vs0 ++ (vs ++ rest')).toArray e (lo, hi)))
    (hlen : (vs ++ rest').length = rest.length) (hfz : ∀ k, k < (vs0 ++ rest).length → ¬ (lo ≤ k ∧ k < hi))
    (hre : RE w ok L φ sz c vs0) (hrl : RE w ok L φ sz l vs) : Ext w0 X L ok φ w (updL L id (.cells sz ro d (c ++ l))) ok φ w' := by
  have hsame : ∀ k o, ok k o → w'.cell? ⟨k, o, none⟩ = w.cell? ⟨k, o, none⟩ := fun k o hk => by
    by_cases e1 : k = b
    · subst e1
      obtain ⟨sz1, d1, c1, h1, h2⟩ := (h.shut k o hk).2 id hb
      rw [hL] at h1; cases h1
      rw [cell_blk hnew, cell_blk hold]
      have : o < vs0.length := by rw [hre.1]; exact h2
      simp [List.getElem?_append_left this]
    · exact World.cell?_of_block (a := ⟨k, o, none⟩) (hw.block k e1)
  have hother : ∀ i k, φ i = some k → i ≠ id → k ≠ b := fun i k hi hne e => hne (h.inj i id b (e ▸ hi) hb)
  have hcap : ∀ k n, CapOK w k n → CapOK w' k n := fun k n hk => by
    by_cases e1 : k = b
    · subst e1
      obtain ⟨cur, e', fz, h1, h2⟩ := hk
      rw [hold] at h1; cases h1
      exact ⟨_, _, _, hnew, by simp only [List.size_toArray, List.length_append] at h2 hlen ⊢; omega⟩
    · exact capOK_of_heap (hw.block k e1) hk
  have keep : Keeps w ok L φ w' ok (updL L id (.cells sz ro d (c ++ l))) φ := by
    refine ⟨fun _ _ h => h, hsame, fun i sz1 ro1 d1 c1 hi => ?_, fun i bb hi hcc => ?_⟩
    · by_cases e1 : id = i
      · subst e1
        rw [hL] at hi; cases hi
        exact ⟨ro, d, c ++ l, by simp [updL], by simp, fun _ => ⟨rfl, fun b' n _ hk => hcap b' n hk⟩⟩
      · exact ⟨ro1, d1, c1, by simp [updL, e1, hi], Nat.le_refl _, fun _ => ⟨rfl, fun b' n _ hk => hcap b' n hk⟩⟩
    · have e1 : id ≠ i := fun e1 => by subst e1; rw [hL] at hi; cases hi; simp [Blk.isC] at hcc
      exact ⟨bb, by simp [updL, e1, hi], Blk.same_refl hcc, rfl⟩
  have hk := fun a v hr => R.keep (a := a) (v := v) keep hr
  refine ⟨keep, ⟨?_, ?_, ?_, h.inj, ?_⟩, ?_, fun ho _ => ho, fun _ _ _ _ h => .inl h⟩
  · intro i sz1 ro1 d1 c1 hii
    by_cases e1 : id = i
    · subst e1
      simp only [updL, if_true, Option.some.injEq, Blk.cells.injEq] at hii
      obtain ⟨rfl, rfl, rfl, rfl⟩ := hii
      refine .inr ⟨b, vs0 ++ vs, rest', e, lo, hi, hb, by rw [hnew, List.append_assoc], fun k hk' => hfz k ?_, (hre.append hrl).keep hk⟩
      simp only [List.length_append] at hk' hlen ⊢; omega
    · simp only [updL, if_neg e1] at hii
      rcases h.blk i sz1 ro1 d1 c1 hii with h1 | ⟨b', vs1, rest1, ee, lo1, hi1, h1, h2, h3, h4⟩
      · exact .inl h1
      · exact .inr ⟨b', vs1, rest1, ee, lo1, hi1, h1, by rw [hw.block b' (hother i b' h1 (Ne.symm e1))]; exact h2, h3, h4.keep hk⟩
  · intro i bb hi hcc
    have e1 : id ≠ i := fun e1 => by subst e1; simp only [updL, if_true, Option.some.injEq] at hi; subst hi; simp [Blk.isC] at hcc
    simp only [updL, if_neg e1] at hi
    obtain ⟨b', o', h1, h2, h3⟩ := h.obj i bb hi hcc
    exact ⟨b', o', h1, by rw [hw.block b' (hother i b' h1 (Ne.symm e1))]; exact h2, h3.keep hk⟩
  · intro i hi
    by_cases e1 : id = i
    · subst e1; simp [updL] at hi
    · simp only [updL, if_neg e1] at hi; exact h.dom i hi
  · intro k o hk'
    obtain ⟨h1, h2⟩ := h.shut k o hk'
    refine ⟨by rw [hw.size]; exact h1, fun i hi => ?_⟩
    by_cases e1 : id = i
    · subst e1
      obtain ⟨sz1, d1, c1, h3, h4⟩ := h2 id hi
      rw [hL] at h3; cases h3
      refine ⟨sz, d, c ++ l, by simp [updL], ?_⟩
      rw [List.length_append, Nat.add_mul]; omega
    · simp only [updL, if_neg e1]; exact h2 i hi
  · intro ho hf
    refine ⟨hw.os.trans hf.os, hw.tape.trans hf.tape, hw.output.trans hf.output, by rw [hw.size]; exact hf.size, fun k hk hx => ?_⟩
    have hne : k ≠ b := fun e => by
      subst e
      rcases ho id k hb with h1 | h1
      · exact hx h1
      · omega
    rw [hw.block k hne]
    exact hf.block k hk hx

/-- A block that grew, and moved. -/
theorem Ext.moved {w0 X L ok φ w w' id sz ro d c c' vs rest e lo hi} (h : HeapOK w ok L φ) (hw0 : w0.heap.size ≤ w.heap.size) (hL : L id = some (.cells sz ro d c)) (hlt : c.length < c'.length)
    (hg : Grow (.cells (vs ++ rest).toArray e (lo, hi)) w w') (hfz : ∀ k, k < (vs ++ rest).length → ¬ (lo ≤ k ∧ k < hi)) (hre : RE w ok L φ sz c' vs) :
    Ext w0 X L ok φ w (updL L id (.cells sz ro d c')) ok (updP φ id (some w.heap.size)) w' := by
  have hc : ∀ b o, ok b o → w'.cell? ⟨b, o, none⟩ = w.cell? ⟨b, o, none⟩ := fun b o hb =>
    World.cell?_of_block (a := ⟨b, o, none⟩) (hg.block b (h.shut b o hb).1)
  have keep : Keeps w ok L φ w' ok (updL L id (.cells sz ro d c')) (updP φ id (some w.heap.size)) := by
    refine ⟨fun _ _ h => h, hc, fun i sz1 ro1 d1 c1 hi' => ?_, fun i bb hi' hcc => ?_⟩
    · by_cases e1 : id = i
      · subst e1
        rw [hL] at hi'; cases hi'
        exact ⟨ro, d, c', by simp [updL], by omega, fun e2 => by omega⟩
      · exact ⟨ro1, d1, c1, by simp [updL, e1, hi'], Nat.le_refl _, fun _ => ⟨by simp [updP, e1], fun b n hb hcap => capOK_of_heap (hg.block b (capOK_lt hcap)) hcap⟩⟩
    · have e1 : id ≠ i := fun e1 => by subst e1; rw [hL] at hi'; cases hi'; simp [Blk.isC] at hcc
      exact ⟨bb, by simp [updL, e1, hi'], Blk.same_refl hcc, by simp [updP, e1]⟩
  have hk := fun a v hr => R.keep (a := a) (v := v) keep hr
  refine ⟨keep, ⟨?_, ?_, ?_, ?_, ?_⟩, ?_, ?_, fun _ _ _ _ h => .inl h⟩
  · intro i sz1 ro1 d1 c1 hi'
    by_cases e1 : id = i
    · subst e1
      simp only [updL, if_true, Option.some.injEq, Blk.cells.injEq] at hi'
      obtain ⟨rfl, rfl, rfl, rfl⟩ := hi'
      exact .inr ⟨w.heap.size, vs, rest, e, lo, hi, by simp [updP], hg.new, hfz, hre.keep hk⟩
    · simp only [updL, if_neg e1] at hi'
      simp only [updP, if_neg e1]
      rcases h.blk i sz1 ro1 d1 c1 hi' with h1 | ⟨b, vs1, rest1, ee, lo1, hi1, h1, h2, h3, h4⟩
      · exact .inl h1
      · exact .inr ⟨b, vs1, rest1, ee, lo1, hi1, h1, by rw [hg.block b (h.lt h1)]; exact h2, h3, h4.keep hk⟩
  · intro i bb hi' hcc
    have e1 : id ≠ i := fun e1 => by subst e1; simp only [updL, if_true, Option.some.injEq] at hi'; subst hi'; simp [Blk.isC] at hcc
    simp only [updL, if_neg e1] at hi'
    obtain ⟨b, o', h1, h2, h3⟩ := h.obj i bb hi' hcc
    exact ⟨b, o', by simp [updP, e1, h1], by rw [hg.block b (h.lt h1)]; exact h2, h3.keep hk⟩
  · intro i hi'
    by_cases e1 : id = i
    · subst e1; simp [updL] at hi'
    · simp only [updL, if_neg e1] at hi'; simp [updP, e1, h.dom i hi']
  · intro i j b hi' hj
    simp only [updP] at hi' hj
    split at hi' <;> split at hj
    · omega
    · cases hi'; exact absurd (h.lt hj) (by omega)
    · cases hj; exact absurd (h.lt hi') (by omega)
    · exact h.inj i j b hi' hj
  · intro b o hb
    obtain ⟨h1, h2⟩ := h.shut b o hb
    refine ⟨by rw [hg.size]; omega, fun i hi' => ?_⟩
    simp only [updP] at hi'
    split at hi'
    · cases hi'; omega
    · rename_i e1; simp only [updL, if_neg e1]; exact h2 i hi'
  · intro _ hf
    exact hf.trans (X := X) (Y := fun _ => False) ⟨hg.os, hg.tape, hg.output, by rw [hg.size]; omega, fun k hk _ => hg.block k hk⟩ (fun _ h => h.elim)
  · intro ho _ i b hi'
    simp only [updP] at hi'
    split at hi'
    · cases hi'; exact .inr hw0
    · exact ho i b hi'

/-- A slice that holds nothing, and has no block. -/
theorem Ext.virt {w0 X L ok φ w id sz d} (h : HeapOK w ok L φ) (hid : L id = none) :
    Ext w0 X L ok φ w (updL L id (.cells sz false d [])) ok φ w := by
  have hne : ∀ i blk', L i = some blk' → id ≠ i := fun i blk' hi e => by subst e; rw [hid] at hi; cases hi
  have keep : Keeps w ok L φ w ok (updL L id (.cells sz false d [])) φ :=
    ⟨fun _ _ h => h, fun _ _ _ => rfl, fun i sz1 ro1 d1 c1 hi => ⟨ro1, d1, c1, by simp [updL, hne i _ hi, hi], Nat.le_refl _, fun _ => ⟨rfl, fun _ _ _ h => h⟩⟩,
      fun i bb hi hcc => ⟨bb, by simp [updL, hne i _ hi, hi], Blk.same_refl hcc, rfl⟩⟩
  have hk := fun a v hr => R.keep (a := a) (v := v) keep hr
  refine ⟨keep, ⟨?_, ?_, ?_, h.inj, ?_⟩, fun _ hf => hf, fun ho _ => ho, fun _ _ _ _ h => .inl h⟩
  · intro i sz1 ro1 d1 c1 hi
    by_cases e1 : id = i
    · subst e1
      simp only [updL, if_true, Option.some.injEq, Blk.cells.injEq] at hi
      exact .inl ⟨h.dom id hid, hi.2.2.2.symm⟩
    · simp only [updL, if_neg e1] at hi
      rcases h.blk i sz1 ro1 d1 c1 hi with h1 | ⟨b', vs1, rest1, ee, lo1, hi1, h1, h2, h3, h4⟩
      · exact .inl h1
      · exact .inr ⟨b', vs1, rest1, ee, lo1, hi1, h1, h2, h3, h4.keep hk⟩
  · intro i bb hi hcc
    have e1 : id ≠ i := fun e1 => by subst e1; simp only [updL, if_true, Option.some.injEq] at hi; subst hi; simp [Blk.isC] at hcc
    simp only [updL, if_neg e1] at hi
    obtain ⟨b', o', h1, h2, h3⟩ := h.obj i bb hi hcc
    exact ⟨b', o', h1, h2, h3.keep hk⟩
  · intro i hi
    by_cases e1 : id = i
    · subst e1; simp [updL] at hi
    · simp only [updL, if_neg e1] at hi; exact h.dom i hi
  · intro b o hb
    obtain ⟨h1, h2⟩ := h.shut b o hb
    refine ⟨h1, fun i hi => ?_⟩
    have e1 : id ≠ i := fun e1 => by subst e1; rw [h.dom id hid] at hi; cases hi
    simp only [updL, if_neg e1]; exact h2 i hi
end Go.Abs
