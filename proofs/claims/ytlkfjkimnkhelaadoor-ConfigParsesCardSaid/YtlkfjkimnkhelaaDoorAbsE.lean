/- Blocks of the call's own: made, read, written. No condition. -/
import Derived.Test.YtlkfjkimnkhelaaDoorAbsC2
set_option linter.unusedVariables false
set_option linter.unusedSimpArgs false
namespace Go.Abs

/-- The same but for block g. -/
structure Wr (g : Nat) (w w' : World) : Prop where
  os : w'.os = w.os
  tape : w'.tape = w.tape
  output : w'.output = w.output
  size : w'.heap.size = w.heap.size
  block : ∀ k, k ≠ g → w'.heap[k]? = w.heap[k]?

theorem Wr.refl (g w) : Wr g w w := ⟨rfl, rfl, rfl, rfl, fun _ _ => rfl⟩
theorem Wr.trans {g a b c} (h : Wr g a b) (k : Wr g b c) : Wr g a c :=
  ⟨k.os.trans h.os, k.tape.trans h.tape, k.output.trans h.output, k.size.trans h.size, fun i hi => (k.block i hi).trans (h.block i hi)⟩

/-- One block more. -/
structure Grow (o : Obj) (w w' : World) : Prop where
  os : w'.os = w.os
  tape : w'.tape = w.tape
  output : w'.output = w.output
  size : w'.heap.size = w.heap.size + 1
  block : ∀ k, k < w.heap.size → w'.heap[k]? = w.heap[k]?
  new : w'.heap[w.heap.size]? = some o

theorem Grow.alloc (w : World) (o : Obj) : Grow o w (w.alloc o) :=
  ⟨rfl, rfl, rfl, by simp, fun k hk => heap_alloc_old w o k hk, heap_alloc_new w o⟩
theorem Grow.drewAlloc (w : World) (o : Obj) : Grow o w (w.drew.alloc o) :=
  ⟨rfl, rfl, rfl, by simp, fun k hk => heap_alloc_old w.drew o k hk, heap_alloc_new w.drew o⟩

theorem cell_blk {w : World} {b o : Nat} {cs : Array Value} {e : TypeId} {fz : Nat × Nat} (h : w.heap[b]? = some (.cells cs e fz)) :
    w.cell? ⟨b, o, none⟩ = cs[o]? := by simp [World.cell?, h]

theorem run_storeCells_blk {P : Program} (g o : Nat) (e : TypeId) (lo hi : Nat) : ∀ (us : List Value) (i : Nat) (cur : List Value) (w : World),
    w.heap[g]? = some (.cells cur.toArray e (lo, hi)) → (∀ k, k < cur.length → ¬ (lo ≤ k ∧ k < hi)) → o + i + us.length ≤ cur.length → (∀ u ∈ us, u.oneCell' = true) →
    ∃ w', (storeCells ⟨g, o, none⟩ us i).run P w = .ok () w' ∧ Wr g w w' ∧
      w'.heap[g]? = some (.cells (cur.take (o + i) ++ (us ++ cur.drop (o + i + us.length))).toArray e (lo, hi))
  | [], i, cur, w, hg, _, _, _ => ⟨w, by simp [storeCells], Wr.refl g w, by simpa using hg⟩
  | v :: rest, i, cur, w, hg, hf, hl, h1 => by
    have hi' : o + i < cur.length := by simp at hl; omega
    have hcell : w.cell? ⟨g, o + i, none⟩ = some cur[o + i] := by rw [cell_blk hg]; simp [hi']
    have hfro : w.frozen? ⟨g, o + i, none⟩ = false := by
      have := hf (o + i) hi'
      simp only [World.frozen?, hg]
      simp only [Bool.and_eq_false_iff, decide_eq_false_iff_not]
      omega
    have hst : (store ((⟨g, o, none⟩ : Addr).add i) v).run P w = .ok () (w.setCell ⟨g, o + i, none⟩ v) := by
      rw [addr_add_plain, run_store P w _ v _ (h1 v (by simp)), hcell]
      simp [hfro]
    have hset : (w.setCell ⟨g, o + i, none⟩ v).heap[g]? = some (.cells (cur.set (o + i) v).toArray e (lo, hi)) := by
      simp only [World.setCell, Array.getElem?_modify, if_true, hg, Option.map_some]
      simp
    obtain ⟨w', h2, h3, h4⟩ := run_storeCells_blk (P := P) g o e lo hi rest (i + 1) (cur.set (o + i) v) (w.setCell ⟨g, o + i, none⟩ v) hset
      (fun k hk => hf k (by simpa using hk)) (by simp at hl ⊢; omega) (fun u hu => h1 u (by simp [hu]))
    have hwr : Wr g w (w.setCell ⟨g, o + i, none⟩ v) := ⟨rfl, rfl, rfl, by simp, fun k hk => by simp only [World.setCell, Array.getElem?_modify]; rw [if_neg (by omega)]⟩
    refine ⟨w', ?_, hwr.trans h3, ?_⟩
    · simp only [storeCells, Sem.run_bind, hst, Result.andThen_ok, h2]
    · rw [h4]
      congr 3
      have e := list_seg_step cur (o + i) v rest (by simp at hl ⊢; omega)
      simpa [Nat.add_assoc] using e

def updL (L : Nat → Option Blk) (id : Nat) (b : Blk) : Nat → Option Blk := fun i => if id = i then some b else L i
def updP (φ : Nat → Option Nat) (id : Nat) (b : Option Nat) : Nat → Option Nat := fun i => if id = i then b else φ i

theorem lk_upd1 (st : St) (id : Nat) (b : Blk) : (st.upd [(id, b)]).lk = updL st.lk id b := by
  funext i; simp [St.upd, St.lk, lkB, updL]
theorem lk_upd0 (st : St) : (st.upd []).lk = st.lk := rfl

theorem capOK_of_heap {w w' : World} {b n : Nat} (h : w'.heap[b]? = w.heap[b]?) (hc : CapOK w b n) : CapOK w' b n := by
  obtain ⟨cur, e, fz, h1, h2⟩ := hc
  exact ⟨cur, e, fz, by rw [h]; exact h1, h2⟩
theorem capOK_lt {w : World} {b n : Nat} (hc : CapOK w b n) : b < w.heap.size := by
  obtain ⟨cur, e, fz, h1, _⟩ := hc
  exact (Array.getElem?_eq_some_iff.1 h1).1

/-- The blocks live, and what they are. -/
theorem HeapOK.live {w ok L φ id b} (h : HeapOK w ok L φ) (hb : φ id = some b) :
    (∃ sz ro d c vs rest e lo hi, L id = some (.cells sz ro d c) ∧ w.heap[b]? = some (.cells (vs ++ rest).toArray e (lo, hi)) ∧
      (∀ o, o < (vs ++ rest).length → ¬ (lo ≤ o ∧ o < hi)) ∧ RE w ok L φ sz c vs) ∨
    (∃ blk o, L id = some blk ∧ w.heap[b]? = some o ∧ ObjR w ok L φ blk o) := by
  have nc : ∀ blk, L id = some blk → blk.isC = false → ∃ blk o, L id = some blk ∧ w.heap[b]? = some o ∧ ObjR w ok L φ blk o := fun blk hL hc => by
    obtain ⟨k, o, h1, h2, h3⟩ := h.obj id blk hL hc
    rw [hb] at h1; cases h1
    exact ⟨blk, o, hL, h2, h3⟩
  cases hL : L id with
  | none => rw [h.dom id hL] at hb; cases hb
  | some blk =>
    cases blk with
    | cells sz ro d c =>
      rcases h.blk id sz ro d c hL with ⟨h1, _⟩ | ⟨b', vs, rest, e, lo, hi, h1, h2, h3, h4⟩
      · rw [hb] at h1; cases h1
      · rw [hb] at h1; cases h1
        exact .inl ⟨sz, ro, d, c, vs, rest, e, lo, hi, rfl, h2, h3, h4⟩
    | iter s pos => exact .inr (hL ▸ nc _ hL rfl)
    | loop lc st pd sl => exact .inr (hL ▸ nc _ hL rfl)
    | defer => exact .inr (hL ▸ nc _ hL rfl)
theorem HeapOK.lt {w ok L φ id b} (h : HeapOK w ok L φ) (hb : φ id = some b) : b < w.heap.size := by
  rcases h.live hb with ⟨_, _, _, _, _, _, _, _, _, _, h2, _⟩ | ⟨_, _, _, h2, _⟩ <;> exact (Array.getElem?_eq_some_iff.1 h2).1

/-- A new block. -/
theorem Ext.new {w0 X L ok φ w w' id blk o} (h : HeapOK w ok L φ) (hw0 : w0.heap.size ≤ w.heap.size) (hid : L id = none) (hg : Grow o w w')
    (hblk : (∃ sz ro d c vs rest e lo hi, blk = .cells sz ro d c ∧ o = .cells (vs ++ rest).toArray e (lo, hi) ∧ (∀ k, k < (vs ++ rest).length → ¬ (lo ≤ k ∧ k < hi)) ∧ RE w ok L φ sz c vs) ∨
      ObjR w ok L φ blk o) :
    Ext w0 X L ok φ w (updL L id blk) ok (updP φ id (some w.heap.size)) w' := by
  have hc : ∀ b o, ok b o → w'.cell? ⟨b, o, none⟩ = w.cell? ⟨b, o, none⟩ := fun b o hb =>
    World.cell?_of_block (a := ⟨b, o, none⟩) (hg.block b (h.shut b o hb).1)
  have hne : ∀ i blk', L i = some blk' → id ≠ i := fun i blk' hi e => by subst e; rw [hid] at hi; cases hi
  have hφn : φ id = none := h.dom id hid
  have keep : Keeps w ok L φ w' ok (updL L id blk) (updP φ id (some w.heap.size)) := by
    refine ⟨fun _ _ h => h, hc, fun i sz ro d c hi => ⟨ro, d, c, by simp [updL, hne i _ hi, hi], Nat.le_refl _, fun _ => ⟨by simp [updP, hne i _ hi], fun b n hb hcap => ?_⟩⟩,
      fun i bb hi hcc => ⟨bb, by simp [updL, hne i _ hi, hi], Blk.same_refl hcc, by simp [updP, hne i _ hi]⟩⟩
    exact capOK_of_heap (hg.block b (capOK_lt hcap)) hcap
  have hk := fun a v hr => R.keep (a := a) (v := v) keep hr
  refine ⟨keep, ⟨?_, ?_, ?_, ?_, ?_⟩, ?_, ?_, fun _ _ _ _ h => .inl h⟩
  · intro i sz ro d c hi
    by_cases e : id = i
    · subst e
      simp only [updL, if_true, Option.some.injEq] at hi
      subst hi
      rcases hblk with ⟨sz', ro', d', c', vs, rest, e, lo, hi', h1, h2, h3, h4⟩ | h1
      · cases h1
        subst h2
        exact .inr ⟨w.heap.size, vs, rest, e, lo, hi', by simp [updP], hg.new, h3, h4.keep hk⟩
      · have := h1.notC; simp [Blk.isC] at this
    · simp only [updL, if_neg e] at hi
      simp only [updP, if_neg e]
      rcases h.blk i sz ro d c hi with h1 | ⟨b, vs, rest, ee, lo, hi', h1, h2, h3, h4⟩
      · exact .inl h1
      · exact .inr ⟨b, vs, rest, ee, lo, hi', h1, by rw [hg.block b (h.lt h1)]; exact h2, h3, h4.keep hk⟩
  · intro i bb hi hcc
    by_cases e : id = i
    · subst e
      simp only [updL, if_true, Option.some.injEq] at hi
      subst hi
      rcases hblk with ⟨sz', ro', d', c', vs, rest, e, lo, hi', h1, _⟩ | h1
      · subst h1; simp [Blk.isC] at hcc
      · exact ⟨w.heap.size, o, by simp [updP], hg.new, h1.keep hk⟩
    · simp only [updL, if_neg e] at hi
      obtain ⟨b, o', h1, h2, h3⟩ := h.obj i bb hi hcc
      exact ⟨b, o', by simp [updP, e, h1], by rw [hg.block b (h.lt h1)]; exact h2, h3.keep hk⟩
  · intro i hi
    by_cases e : id = i
    · subst e; simp [updL] at hi
    · simp only [updL, if_neg e] at hi; simp [updP, e, h.dom i hi]
  · intro i j b hi hj
    simp only [updP] at hi hj
    split at hi <;> split at hj
    · omega
    · rename_i e1 e2; cases hi; exact absurd (h.lt hj) (by omega)
    · rename_i e1 e2; cases hj; exact absurd (h.lt hi) (by omega)
    · exact h.inj i j b hi hj
  · intro b o hb
    obtain ⟨h1, h2⟩ := h.shut b o hb
    refine ⟨by rw [hg.size]; omega, fun i hi => ?_⟩
    simp only [updP] at hi
    split at hi
    · cases hi; omega
    · rename_i e; simp only [updL, if_neg e]; exact h2 i hi
  · intro _ hf
    exact hf.trans (X := X) (Y := fun _ => False) ⟨hg.os, hg.tape, hg.output, by rw [hg.size]; omega, fun k hk _ => hg.block k hk⟩ (fun _ h => h.elim)
  · intro ho _ i b hi
    simp only [updP] at hi
    split at hi
    · cases hi; exact .inr hw0
    · exact ho i b hi

/-- A block that was written, and holds the same number of elements, or is an iterator. -/
theorem Ext.wrote {w0 X L ok φ w w' id b blk} (h : HeapOK w ok L φ) (hb : φ id = some b) (hw : Wr b w w')
    (hblk : (∃ sz d c d' c' vs rest e lo hi, L id = some (.cells sz false d c) ∧ blk = .cells sz false d' c' ∧ c'.length = c.length ∧ w'.heap[b]? = some (.cells (vs ++ rest).toArray e (lo, hi)) ∧
        (∀ k, k < (vs ++ rest).length → ¬ (lo ≤ k ∧ k < hi)) ∧ RE w ok L φ sz c' vs ∧ (∀ n, CapOK w b n → CapOK w' b n)) ∨
      (∃ blk0 o, L id = some blk0 ∧ blk0.same blk ∧ w'.heap[b]? = some o ∧ ObjR w ok L φ blk o)) :
    Ext w0 X L ok φ w (updL L id blk) ok φ w' := by
  have hnb : ∀ k o, ok k o → k ≠ b := fun k o hk e => by
    subst e
    obtain ⟨sz, d, c, h1, _⟩ := (h.shut k o hk).2 id hb
    rcases hblk with ⟨_, _, _, _, _, _, _, _, _, _, h2, _⟩ | ⟨_, _, h2, h3, _⟩
    · rw [h1] at h2; cases h2
    · rw [h1] at h2; cases h2; have := Blk.same_notC' h3; simp [Blk.isC] at this
  have hc : ∀ k o, ok k o → w'.cell? ⟨k, o, none⟩ = w.cell? ⟨k, o, none⟩ := fun k o hk =>
    World.cell?_of_block (a := ⟨k, o, none⟩) (hw.block k (hnb k o hk))
  have hother : ∀ i k, φ i = some k → i ≠ id → k ≠ b := fun i k hi hne e => hne (h.inj i id b (e ▸ hi) hb)
  have hcap : ∀ k n, CapOK w k n → CapOK w' k n := fun k n hk => by
    by_cases e : k = b
    · subst e
      rcases hblk with ⟨_, _, _, _, _, _, _, _, _, _, _, _, _, _, _, _, h2⟩ | ⟨blk0, o, h1, hs, _⟩
      · exact h2 n hk
      · obtain ⟨b', o', h3, h4, h6⟩ := h.obj id blk0 h1 (Blk.same_notC' hs)
        rw [hb] at h3; cases h3
        obtain ⟨_, _, _, h5, _⟩ := hk
        rw [h4] at h5; cases h5
        exact absurd rfl h6.notCells
    · exact capOK_of_heap (hw.block k e) hk
  have keep : Keeps w ok L φ w' ok (updL L id blk) φ := by
    refine ⟨fun _ _ h => h, hc, fun i sz ro d c hi => ?_, fun i bb hi hcc => ?_⟩
    · by_cases e : id = i
      · subst e
        rcases hblk with ⟨sz', d1, c1, d', c', vs, rest, e, lo, hi', h1, h2, h3, _⟩ | ⟨blk0, o, h1, h2, _⟩
        · rw [hi] at h1; cases h1
          exact ⟨false, d', c', by simp [updL, h2], by omega, fun _ => ⟨rfl, fun b' n _ hk => hcap b' n hk⟩⟩
        · rw [hi] at h1; cases h1; have := Blk.same_notC' h2; simp [Blk.isC] at this
      · exact ⟨ro, d, c, by simp [updL, e, hi], Nat.le_refl _, fun _ => ⟨rfl, fun b' n _ hk => hcap b' n hk⟩⟩
    · by_cases e : id = i
      · subst e
        rcases hblk with ⟨sz', d1, c1, d', c', vs, rest, e, lo, hi', h1, h2, h3, _⟩ | ⟨blk0, o, h1, h2, _⟩
        · rw [hi] at h1; cases h1; simp [Blk.isC] at hcc
        · rw [hi] at h1; cases h1
          exact ⟨blk, by simp [updL], h2, rfl⟩
      · exact ⟨bb, by simp [updL, e, hi], Blk.same_refl hcc, rfl⟩
  have hk := fun a v hr => R.keep (a := a) (v := v) keep hr
  refine ⟨keep, ⟨?_, ?_, ?_, h.inj, ?_⟩, ?_, fun ho _ => ho, fun _ _ _ _ h => .inl h⟩
  · intro i sz ro d c hi
    by_cases e : id = i
    · subst e
      simp only [updL, if_true, Option.some.injEq] at hi
      subst hi
      rcases hblk with ⟨sz', d1, c1, d', c', vs, rest, e, lo, hi', h1, h2, h3, h4, h5, h6, _⟩ | ⟨blk0, o, _, h1, _⟩
      · cases h2
        exact .inr ⟨b, vs, rest, e, lo, hi', hb, h4, h5, h6.keep hk⟩
      · have := Blk.same_notC h1; simp [Blk.isC] at this
    · simp only [updL, if_neg e] at hi
      rcases h.blk i sz ro d c hi with h1 | ⟨b', vs, rest, ee, lo, hi', h1, h2, h3, h4⟩
      · exact .inl h1
      · exact .inr ⟨b', vs, rest, ee, lo, hi', h1, by rw [hw.block b' (hother i b' h1 (Ne.symm e))]; exact h2, h3, h4.keep hk⟩
  · intro i bb hi hcc
    by_cases e : id = i
    · subst e
      simp only [updL, if_true, Option.some.injEq] at hi
      subst hi
      rcases hblk with ⟨sz', d1, c1, d', c', vs, rest, e, lo, hi', h1, h2, _⟩ | ⟨blk0, o, _, h1, h2, h3⟩
      · subst h2; simp [Blk.isC] at hcc
      · exact ⟨b, o, hb, h2, h3.keep hk⟩
    · simp only [updL, if_neg e] at hi
      obtain ⟨b', o', h1, h2, h3⟩ := h.obj i bb hi hcc
      exact ⟨b', o', h1, by rw [hw.block b' (hother i b' h1 (Ne.symm e))]; exact h2, h3.keep hk⟩
  · intro i hi
    by_cases e : id = i
    · subst e; simp [updL] at hi
    · simp only [updL, if_neg e] at hi; exact h.dom i hi
  · intro k o hk'
    obtain ⟨h1, h2⟩ := h.shut k o hk'
    refine ⟨by rw [hw.size]; exact h1, fun i hi => ?_⟩
    have hne : id ≠ i := fun e => by subst e; rw [hb] at hi; cases hi; exact hnb _ _ hk' rfl
    simp only [updL, if_neg hne]; exact h2 i hi
  · intro ho hf
    refine ⟨hw.os.trans hf.os, hw.tape.trans hf.tape, hw.output.trans hf.output, by rw [hw.size]; exact hf.size, fun k hk hx => ?_⟩
    have hne : k ≠ b := fun e => by
      subst e
      rcases ho id k hb with h1 | h1
      · exact hx h1
      · omega
    rw [hw.block k hne]
    exact hf.block k hk hx
end Go.Abs
set_option linter.unusedVariables false
set_option linter.unusedSimpArgs false
namespace Go.Abs

theorem R.refInv {w ok L φ id off len hw v} (h : R w ok L φ (.ref id off len hw) v) : ∃ sz ro d c, L id = some (.cells sz ro d c) ∧ hw ≤ c.length ∧ (∃ a n m, v = .slice a n m) ∧
    (hw = c.length → RefV w φ sz id off len hw v) := by
  cases h with
  | pure _ _ h => cases h
  | ref _ _ _ _ va vn vc sz ro d c hL hle h => exact ⟨sz, ro, d, c, hL, hle, ⟨va, vn, vc, rfl⟩, h⟩
theorem R.ptrInv {w ok L φ id i j hw v} (h : R w ok L φ (.ptr id i j hw) v) : ∃ pa sz ro d c, v = .pointer (some pa) ∧ L id = some (.cells sz ro d c) ∧ hw ≤ c.length ∧
    (hw = c.length → ∃ b, φ id = some b ∧ pa = ⟨b, i * sz + j, none⟩) := by
  cases h with
  | pure _ _ h => cases h
  | ptr _ _ _ _ pa sz ro d c hL hle h => exact ⟨pa, sz, ro, d, c, rfl, hL, hle, h⟩

/-! len of a slice of one's own -/
def rdLen (P : Program) (L : Nat → Option Blk) (t : TypeId) (x : AV) : Option (AV × Prop) :=
  match x with
  | .ref id off len hw => match P.underlying t, L id with
    | some (.slice _), some (.cells _ _ _ c) => some (.int .i64 len, hw = c.length)
    | _, _ => none
  | _ => none
theorem rdLen_ok {P t ty x v' p w ok L φ vx} (h : rdLen P L t x = some (v', p)) (hp : p) (hx : R w ok L φ x vx) :
    ∃ v, (Builtin.len_ #[t] ty #[vx]).run P w = .ok v w ∧ R w ok L φ v' v := by
  unfold rdLen at h
  split at h
  · rename_i id off len hw
    split at h <;> simp only [Option.some.injEq, reduceCtorEq, Prod.mk.injEq] at h
    rename_i el sz ro d c hu hL
    obtain ⟨rfl, rfl⟩ := h
    obtain ⟨sz', ro', d', c', hL', hle, _, hr⟩ := hx.refInv
    rw [hL] at hL'; cases hL'
    obtain ⟨h1, h2⟩ := hr hp
    rcases h2 with ⟨h2, a0, rfl⟩ | ⟨b, cap, a, h2, rfl, _⟩
    · have : len = 0 := by omega
      subst this
      exact ⟨_, by simp [Builtin.len_, run_underlying hu, goInt], .pure _ _ (.int _ _)⟩
    · exact ⟨_, by simp [Builtin.len_, run_underlying hu, goInt], .pure _ _ (.int _ _)⟩
  · simp at h

/-! an element's address -/
def rdIndexAddr (P : Program) (L : Nat → Option Blk) (t : TypeId) (x i : AV) : Option (AV × Prop) :=
  match x, i with
  | .ref id off len hw, .int _ n => match P.underlying t, L id with
    | some (.slice el), some (.cells sz _ _ c) => some (.ptr id (off + n.toNat) 0 hw, hw = c.length ∧ 0 ≤ n ∧ n < len ∧ szT P el = some sz)
    | _, _ => none
  | .ptr id i0 0 hw, .int _ n => match P.underlying t, L id with
    | some (.array m el), some (.cells sz _ _ c) => match szT P el with
      | some k => if k = sz then some (.ptr id (i0 + n.toNat) 0 hw, hw = c.length ∧ 0 ≤ n ∧ n < m)
        else if sz = 1 then some (.ptr id (i0 + n.toNat * k) 0 hw, hw = c.length ∧ 0 ≤ n ∧ n < m) else none
      | none => none
    | _, _ => none
  | _, _ => none
theorem rdIndexAddr_ok {P t x i v' p w ok L φ vx vi} (h : rdIndexAddr P L t x i = some (v', p)) (hp : p) (hx : R w ok L φ x vx) (hi : R w ok L φ i vi) :
    ∃ v, (Instr.indexAt t vx vi).run P w = .ok v w ∧ R w ok L φ v' v := by
  unfold rdIndexAddr at h
  split at h
  · rename_i id off len hw k n
    obtain rfl : vi = .int k n := by cases hi with | pure _ _ hi => cases hi; rfl
    split at h <;> simp only [Option.some.injEq, reduceCtorEq, Prod.mk.injEq] at h
    rename_i el sz ro d c hu hL
    obtain ⟨rfl, rfl⟩ := h
    obtain ⟨hw1, h0, h1, hsz⟩ := hp
    obtain ⟨m, rfl⟩ := Int.eq_ofNat_of_zero_le h0
    have hm : m < len := by omega
    obtain ⟨sz', ro', d', c', hL', hle, _, hr⟩ := hx.refInv
    rw [hL] at hL'; cases hL'
    obtain ⟨h2, h3⟩ := hr hw1
    rcases h3 with ⟨h3, _, rfl⟩ | ⟨b, cap, a, h3, rfl, h4, h5, h6⟩
    · omega
    · rcases h6 with h6 | ⟨rfl, h7⟩
      · omega
      · refine ⟨.pointer (some ⟨b, off * sz + m * sz, none⟩), ?_, ?_⟩
        · simp [Instr.indexAt, asIntOf, run_underlying hu, hm, run_sizeOf' hsz, addr_add_plain]
        · exact .ptr id _ 0 hw _ sz ro d c hL hle (fun _ => ⟨b, h3, by simp [Nat.add_mul]⟩)
  · rename_i id i0 hw k n
    obtain rfl : vi = .int k n := by cases hi with | pure _ _ hi => cases hi; rfl
    split at h <;> try (simp at h; done)
    rename_i m el sz ro d c hu hL
    split at h <;> try (simp at h; done)
    rename_i kk hsz
    have main : hw = c.length → 0 ≤ n → n < m → ∀ t', (i0 * sz + 0 + n.toNat * kk = t' * sz + 0) → ∃ v, (Instr.indexAt t vx (.int k n)).run P w = .ok v w ∧ R w ok L φ (.ptr id t' 0 hw) v := by
      intro hw1 h0 h1 t' ht
      obtain ⟨q, rfl⟩ := Int.eq_ofNat_of_zero_le h0
      have hm : q < m := by omega
      obtain ⟨pa, sz', ro', d', c', rfl, hL', hle, hr⟩ := hx.ptrInv
      rw [hL] at hL'; cases hL'
      obtain ⟨b, hb, rfl⟩ := hr hw1
      refine ⟨.pointer (some ⟨b, i0 * sz + 0 + q * kk, none⟩), ?_, ?_⟩
      · simp [Instr.indexAt, asIntOf, run_underlying hu, hm, run_sizeOf' hsz, addr_add_plain, Instr.sureAddr]
      · refine .ptr id _ 0 hw _ sz ro d c hL hle (fun _ => ⟨b, hb, ?_⟩)
        rw [← ht]; simp
    split at h
    · rename_i hk
      subst hk
      simp only [Option.some.injEq, Prod.mk.injEq] at h
      obtain ⟨rfl, rfl⟩ := h
      exact main hp.1 hp.2.1 hp.2.2 _ (by rw [Nat.add_mul]; omega)
    · split at h <;> simp only [Option.some.injEq, reduceCtorEq, Prod.mk.injEq] at h
      rename_i hk
      subst hk
      obtain ⟨rfl, rfl⟩ := h
      exact main hp.1 hp.2.1 hp.2.2 _ (by omega)
  · simp at h

/-! a part of a slice of one's own, or of an array of one's own -/
def rdSlice (P : Program) (L : Nat → Option Blk) (t : TypeId) (x : AV) (lo hi mx : Option AV) : Option (AV × Prop) :=
  match x with
  | .ref id off len hw =>
    match P.underlying t, L id, mx with
    | some (.slice el), some (.cells sz _ _ c), none =>
      match lo, hi with
      | none, none => some (.ref id off len hw, hw = c.length ∧ szT P el = some sz)
      | some (.int _ l), none => some (.ref id (off + l.toNat) (len - l.toNat) hw, hw = c.length ∧ szT P el = some sz ∧ 0 ≤ l ∧ l ≤ len)
      | none, some (.int _ h) => some (.ref id off h.toNat hw, hw = c.length ∧ szT P el = some sz ∧ 0 ≤ h ∧ h ≤ len)
      | some (.int _ l), some (.int _ h) => some (.ref id (off + l.toNat) (h.toNat - l.toNat) hw, hw = c.length ∧ szT P el = some sz ∧ 0 ≤ l ∧ l ≤ h ∧ h ≤ len)
      | _, _ => none
    | _, _, _ => none
  | .ptr id 0 0 hw =>
    match P.underlying t, L id, mx with
    | some (.array n el), some (.cells sz _ _ c), none =>
      match lo, hi with
      | some (.int _ l), none => some (.ref id l.toNat (n - l.toNat) hw, hw = c.length ∧ szT P el = some sz ∧ n = c.length ∧ n ≤ maxInt ∧ 0 ≤ l ∧ l ≤ n)
      | _, _ => none
    | _, _, _ => none
  | _ => none

theorem RefV.sub {w φ sz id off len hw a n cap} (h : RefV w φ sz id off len hw (.slice a n cap)) (lo hi : Nat) (h1 : lo ≤ hi) (h2 : hi ≤ len) :
    n = len ∧ hi ≤ cap ∧ RefV w φ sz id (off + lo) (hi - lo) hw (.slice (if cap = lo then a else a.map (·.add (lo * sz))) (hi - lo) (cap - lo)) := by
  obtain ⟨g1, g2⟩ := h
  rcases g2 with ⟨g2, a1, g3⟩ | ⟨b, cap', a', g2, g3, g4, g5, g6⟩
  · cases g3
    obtain rfl : len = 0 := by omega
    obtain rfl : hi = 0 := by omega
    obtain rfl : lo = 0 := by omega
    exact ⟨rfl, Nat.le_refl _, by omega, .inl ⟨g2, a, by simp⟩⟩
  · cases g3
    refine ⟨rfl, by omega, by omega, .inr ⟨b, cap - lo, if cap = lo then a' else a'.add (lo * sz), g2, ?_, by omega, by omega, ?_⟩⟩
    · split <;> simp
    · by_cases e : cap = lo
      · exact .inl (by omega)
      · rw [if_neg e]
        rcases g6 with g6 | ⟨rfl, g7⟩
        · omega
        · refine .inr ⟨by rw [addr_add_plain, Nat.add_mul], ?_⟩
          rw [show off + lo + (cap - lo) = off + cap by omega]
          exact g7

theorem rdSlice_ok {P t x lo hi mx v' p w ok L φ vx vlo vhi vmx} (h : rdSlice P L t x lo hi mx = some (v', p)) (hp : p) (hh : HeapOK w ok L φ) (hx : R w ok L φ x vx)
    (hlo : ∀ k n, lo = some (.int k n) → vlo = some (.int k n)) (hlo' : lo = none → vlo = none)
    (hhi : ∀ k n, hi = some (.int k n) → vhi = some (.int k n)) (hhi' : hi = none → vhi = none)
    (hmx : ∀ k n, mx = some (.int k n) → vmx = some (.int k n)) (hmx' : mx = none → vmx = none) :
    ∃ v, (Instr.sliceAt t vx vlo vhi vmx).run P w = .ok v w ∧ R w ok L φ v' v := by
  unfold rdSlice at h
  split at h
  · rename_i id off len hw
    split at h
    · rename_i el sz ro d c hu hL
      obtain rfl := hmx' rfl
      obtain ⟨sz', ro', d', c', hL', hle, ⟨a, n, cap, rfl⟩, hr⟩ := hx.refInv
      rw [hL] at hL'; cases hL'
      split at h <;> simp only [Option.some.injEq, reduceCtorEq, Prod.mk.injEq] at h
      · obtain ⟨rfl, rfl⟩ := h
        obtain rfl := hlo' rfl; obtain rfl := hhi' rfl
        obtain ⟨hw1, hsz⟩ := hp
        obtain ⟨rfl, hcap, hv⟩ := (hr hw1).sub 0 len (Nat.zero_le _) (Nat.le_refl _)
        refine ⟨_, ?_, .ref id off n hw _ _ _ sz ro d c hL hle (fun _ => by simpa using hv)⟩
        simp [Instr.sliceAt, Instr.slice, run_underlying hu, Instr.sliceBounds, run_sizeOf' hsz]
      · rename_i k l
        obtain ⟨rfl, rfl⟩ := h
        obtain rfl := hlo _ _ rfl; obtain rfl := hhi' rfl
        obtain ⟨hw1, hsz, h0, h1⟩ := hp
        obtain ⟨rfl, hcap, hv⟩ := (hr hw1).sub l.toNat len (by omega) (Nat.le_refl _)
        refine ⟨_, ?_, .ref id _ _ hw _ _ _ sz ro d c hL hle (fun _ => hv)⟩
        simp [Instr.sliceAt, Instr.slice, run_underlying hu, Instr.sliceBounds, run_sizeOf' hsz, run_sliceBound _ _ _ _ _ h0 h1]
      · rename_i k h'
        obtain ⟨rfl, rfl⟩ := h
        obtain rfl := hlo' rfl; obtain rfl := hhi _ _ rfl
        obtain ⟨hw1, hsz, h0, h1⟩ := hp
        obtain ⟨rfl, hcap, hv⟩ := (hr hw1).sub 0 h'.toNat (by omega) (by omega)
        have h2 : h' ≤ (cap : Nat) := by omega
        refine ⟨_, ?_, .ref id _ _ hw _ _ _ sz ro d c hL hle (fun _ => by simpa using hv)⟩
        simp [Instr.sliceAt, Instr.slice, run_underlying hu, Instr.sliceBounds, run_sizeOf' hsz, run_sliceBound _ _ _ _ _ h0 h2]
      · rename_i k l k' h'
        obtain ⟨rfl, rfl⟩ := h
        obtain rfl := hlo _ _ rfl; obtain rfl := hhi _ _ rfl
        obtain ⟨hw1, hsz, h0, h1, h1'⟩ := hp
        obtain ⟨rfl, hcap, hv⟩ := (hr hw1).sub l.toNat h'.toNat (by omega) (by omega)
        have h2 : h' ≤ (cap : Nat) := by omega
        have h3 : l ≤ (h'.toNat : Nat) := by omega
        have h4 : (0 : Int) ≤ h' := by omega
        refine ⟨_, ?_, .ref id _ _ hw _ _ _ sz ro d c hL hle (fun _ => hv)⟩
        simp [Instr.sliceAt, Instr.slice, run_underlying hu, Instr.sliceBounds, run_sizeOf' hsz, run_sliceBound _ _ _ _ _ h4 h2, run_sliceBound _ _ _ _ _ h0 h3]
    · simp at h
  · rename_i id hw
    split at h
    · rename_i n el sz ro d c hu hL
      obtain rfl := hmx' rfl
      obtain ⟨pa, sz', ro', d', c', rfl, hL', hle, hr⟩ := hx.ptrInv
      rw [hL] at hL'; cases hL'
      have capok : ∀ b, φ id = some b → CapOK w b (c.length * sz) := fun b hb => by
        rcases hh.live hb with ⟨sz1, ro1, d1, c1, vs, rest, e, lo', hi', h1, h2, h3, h4⟩ | ⟨blk1, o1, h1, _, ho1⟩
        · rw [hL] at h1; cases h1
          exact ⟨_, _, _, h2, by simp [h4.1]⟩
        · rw [hL] at h1; cases h1; cases ho1
      split at h <;> simp only [Option.some.injEq, reduceCtorEq, Prod.mk.injEq] at h
      · rename_i k l
        obtain ⟨rfl, rfl⟩ := h
        obtain rfl := hlo _ _ rfl; obtain rfl := hhi' rfl
        obtain ⟨hw1, hsz, hn, hmx, h0, h1⟩ := hp
        obtain ⟨b, hb, rfl⟩ := hr hw1
        have hmx' : n ≤ maxLen := by simpa [maxLen, maxInt] using hmx
        refine ⟨.slice (some (if n = l.toNat then ⟨b, 0, none⟩ else ⟨b, l.toNat * sz, none⟩)) (n - l.toNat) (n - l.toNat), ?_,
          .ref id _ _ hw _ _ _ sz ro d c hL hle (fun _ => ⟨by omega, .inr ⟨b, n - l.toNat, _, hb, rfl, Nat.le_refl _, by omega, ?_⟩⟩)⟩
        · simp [Instr.sliceAt, run_underlying hu, Instr.sureAddr, Instr.sliceBounds, run_sizeOf' hsz, run_sliceBound _ _ _ _ _ h0 h1, addr_add_plain]
        · by_cases e : n = l.toNat
          · exact .inl (by omega)
          · rw [if_neg e]
            refine .inr ⟨rfl, ?_⟩
            rw [show l.toNat + (n - l.toNat) = c.length by omega]
            exact capok b hb
    · simp at h
  · simp at h

/-! a load -/
theorem run_loadCells' {P : Program} {w : World} {b o : Nat} (vs : List Value) (h : ∀ (j : Nat) (v : Value), vs[j]? = some v → w.cell? ⟨b, o + j, none⟩ = some v) :
    (loadCells ⟨b, o, none⟩ vs.length).run P w = .ok vs.toArray w :=
  run_loadCells_list w ⟨b, o, none⟩ vs (fun j v hj => by rw [addr_add_plain]; exact h j v hj)

def rdLoad0 (P : Program) (L : Nat → Option Blk) (t : TypeId) (x : AV) : Option (AV × Prop) :=
  match x with
  | .radr cs => match aggT P t, szT P t with
    | some false, _ => some (cs.getD 0 .any, 0 < cs.length)
    | some true, some n => some (.agg (cs.take n), n ≤ cs.length)
    | _, _ => none
  | .ptr id i j hw => match L id with
    | some (.cells sz _ d c) => match P.underlying t with
      | some (.array n el) => if aggT P el = some false ∧ sz = 1 ∧ szT P el = some 1 then some (.agg (c.flatMap AV.cells), hw = c.length ∧ n = c.length ∧ i = 0 ∧ j = 0 ∧ szT P t = some n)
        else if sz = 1 then some (.agg (c.flatMap AV.cells), hw = c.length ∧ i = 0 ∧ j = 0 ∧ szT P t = some c.length) else none
      | _ => match aggT P t, szT P t with
        | some false, _ => some ((c.getD i d).cells.getD j .any, hw = c.length ∧ i < c.length ∧ j < sz)
        | some true, some n => some (.agg (((c.getD i d).cells.drop j).take n), hw = c.length ∧ i < c.length ∧ j + n ≤ sz)
        | _, _ => none
    | _ => none
  | _ => none

theorem RE.flat {w ok L φ c vs} (h : RE w ok L φ 1 c vs) : RC w ok L φ (c.flatMap AV.cells) vs := by
  have hc : ∀ x ∈ c, ∃ y, x.cells = [y] := fun x hx => by
    obtain ⟨i, hi, rfl⟩ := List.mem_iff_getElem.1 hx
    have := h.2.1 i _ (List.getElem?_eq_getElem hi)
    exact List.length_eq_one_iff.1 this
  have hget : ∀ (l : List AV), (∀ x ∈ l, ∃ y, x.cells = [y]) → ∀ (i : Nat) (y : AV), (l.flatMap AV.cells)[i]? = some y → ∃ x, l[i]? = some x ∧ x.cells = [y] := by
    intro l
    induction l with
    | nil => intro _ i y hy; simp at hy
    | cons a l ih =>
      intro hl i y hy
      obtain ⟨z, hz⟩ := hl a (by simp)
      simp only [List.flatMap_cons, hz, List.singleton_append] at hy
      cases i with
      | zero => simp at hy; subst hy; exact ⟨a, by simp, hz⟩
      | succ i => simp at hy; obtain ⟨x, h1, h2⟩ := ih (fun x hx => hl x (by simp [hx])) i y hy; exact ⟨x, by simpa using h1, h2⟩
  have hlen : (c.flatMap AV.cells).length = c.length := by
    have : ∀ (l : List AV), (∀ x ∈ l, ∃ y, x.cells = [y]) → (l.flatMap AV.cells).length = l.length := by
      intro l
      induction l with
      | nil => intro _; rfl
      | cons a l ih =>
        intro hl
        obtain ⟨z, hz⟩ := hl a (by simp)
        simp only [List.flatMap_cons, hz, List.length_append, List.length_cons, List.length_nil, ih (fun x hx => hl x (by simp [hx]))]
        omega
    exact this c hc
  obtain ⟨l1, s1, r1⟩ := h
  simp only [Nat.mul_one] at l1 r1
  refine ⟨by rw [l1, hlen], fun i v hv => ?_, fun i a v ha hv => ?_⟩
  · have hi : i < c.length := by rw [← l1]; exact (List.getElem?_eq_some_iff.1 hv).1
    obtain ⟨y, hy⟩ := hc c[i] (List.getElem_mem hi)
    obtain ⟨u, h1, h2, _⟩ := r1 i _ 0 y (List.getElem?_eq_getElem hi) (by rw [hy]; rfl)
    simp only [Nat.add_zero] at h1
    rw [hv] at h1; cases h1; exact h2
  · obtain ⟨x, hx, hxy⟩ := hget c hc i a ha
    obtain ⟨u, h1, _, h3⟩ := r1 i x 0 a hx (by rw [hxy]; rfl)
    simp only [Nat.add_zero] at h1
    rw [hv] at h1; cases h1; exact h3

theorem rdLoad0_ok {P t x v' p w ok L φ vx} (h : rdLoad0 P L t x = some (v', p)) (hp : p) (hh : HeapOK w ok L φ) (hx : R w ok L φ x vx) :
    ∃ v, (Instr.loadAt t vx).run P w = .ok v w ∧ R w ok L φ v' v := by
  unfold rdLoad0 at h
  split at h
  · rename_i cs
    obtain ⟨b, off, cv, rfl, h1, h2⟩ : ∃ b off, ∃ cv : Nat → Value, vx = .pointer (some ⟨b, off, none⟩) ∧
        (∀ (j : Nat) (y : AV), cs[j]? = some y → ok b (off + j) ∧ w.cell? ⟨b, off + j, none⟩ = some (cv j) ∧ (cv j).oneCell' = true) ∧
        (∀ (j : Nat) (y : AV), cs[j]? = some y → Rp w ok y (cv j)) := by
      cases hx with
      | pure _ _ hx => cases hx with | radr _ b off cv h1 h2 => exact ⟨b, off, cv, rfl, h1, h2⟩
    split at h <;> simp only [Option.some.injEq, reduceCtorEq, Prod.mk.injEq] at h
    · rename_i s hag
      obtain ⟨rfl, rfl⟩ := h
      have hg : cs[0]? = some cs[0] := List.getElem?_eq_getElem hp
      obtain ⟨_, h3, _⟩ := h1 0 _ hg
      simp only [Nat.add_zero] at h3
      refine ⟨cv 0, ?_, .pure _ _ ?_⟩
      · simp [Instr.loadAt, Instr.sureAddr, loadVar, run_isAgg' hag, h3]
      · have := h2 0 _ hg
        simpa [List.getD_eq_getElem?_getD, hg] using this
    · rename_i n hag hsz
      obtain ⟨rfl, rfl⟩ := h
      let us := (List.range n).map cv
      have hus : us.length = n := by simp [us]
      have hu : ∀ (j : Nat) (v : Value), us[j]? = some v → j < n ∧ v = cv j := by
        intro j v hj
        have hlt : j < n := by rw [← hus]; exact (List.getElem?_eq_some_iff.1 hj).1
        refine ⟨hlt, ?_⟩
        simp [us, List.getElem?_map, List.getElem?_range hlt] at hj
        exact hj.symm
      have hcell := run_loadCells' (P := P) (w := w) (b := b) (o := off) us (fun j v hj => by
        obtain ⟨hlt, rfl⟩ := hu j v hj
        exact (h1 j _ (List.getElem?_eq_getElem (by omega))).2.1)
      rw [hus] at hcell
      refine ⟨.agg us.toArray, ?_, .agg _ us (by rw [hus, List.length_take]; omega) (fun j v hj => ?_) (fun j a v ha hj => ?_)⟩
      · simp [Instr.loadAt, Instr.sureAddr, loadVar, run_isAgg' hag, run_sizeOf' hsz, hcell]
      · obtain ⟨hlt, rfl⟩ := hu j v hj
        exact (h1 j _ (List.getElem?_eq_getElem (by omega))).2.2
      · obtain ⟨hlt, rfl⟩ := hu j v hj
        rw [List.getElem?_take, if_pos hlt] at ha
        exact .pure _ _ (h2 j a ha)
  · rename_i id i j hw
    obtain ⟨pa, sz, ro, d, c, rfl, hL, hle, hr⟩ := hx.ptrInv
    rw [hL] at h
    simp only at h
    have live : hw = c.length → 0 < c.length → ∃ b vs rest e fz, φ id = some b ∧ pa = ⟨b, i * sz + j, none⟩ ∧ w.heap[b]? = some (.cells (vs ++ rest).toArray e fz) ∧ RE w ok L φ sz c vs := by
      intro hc _
      obtain ⟨b, hb, rfl⟩ := hr hc
      rcases hh.live hb with ⟨sz1, ro1, d1, c1, vs, rest, e, lo', hi', h1, h2, h3, h4⟩ | ⟨blk1, o1, h1, _, ho1⟩
      · rw [hL] at h1; cases h1
        exact ⟨b, vs, rest, e, _, hb, rfl, h2, h4⟩
      · rw [hL] at h1; cases h1; cases ho1
    split at h
    · rename_i n el hu
      have key : ∀ n, sz = 1 → hw = c.length ∧ n = c.length ∧ i = 0 ∧ j = 0 ∧ szT P t = some n → ∃ v, (Instr.loadAt t (.pointer (some pa))).run P w = .ok v w ∧ R w ok L φ (.agg (c.flatMap AV.cells)) v := by
        intro n hsz1 hq
        subst hsz1
        obtain ⟨hw1, hn, rfl, rfl, hszt⟩ := hq
        have hagt : aggT P t = some true := by simp [aggT, hu]
        by_cases hc0 : 0 < c.length
        · obtain ⟨b, vs, rest, e, fz, hb, rfl, h2, h4⟩ := live hw1 hc0
          have hlen : vs.length = n := by have := h4.1; omega
          have hcell := run_loadCells' (P := P) (w := w) (b := b) (o := 0) vs (fun k v hk => by
            rw [cell_blk h2]
            have hlt := (List.getElem?_eq_some_iff.1 hk).1
            simp [List.getElem?_append_left hlt, hk])
          rw [hlen] at hcell
          have hrc := h4.flat
          refine ⟨.agg vs.toArray, ?_, .agg _ vs hrc.1 hrc.2.1 hrc.2.2⟩
          simp [Instr.loadAt, Instr.sureAddr, loadVar, run_isAgg' hagt, run_sizeOf' hszt, hcell]
        · have hc : c = [] := List.eq_nil_of_length_eq_zero (by omega)
          subst hc
          simp at hn
          subst hn
          refine ⟨.agg #[], ?_, .agg _ [] rfl (by simp) (by simp)⟩
          simp [Instr.loadAt, Instr.sureAddr, loadVar, run_isAgg' hagt, run_sizeOf' hszt, loadCells, loadCellsFrom]
      split at h
      · rename_i hcond
        simp only [Option.some.injEq, Prod.mk.injEq] at h
        obtain ⟨rfl, rfl⟩ := h
        exact key n hcond.2.1 hp
      · split at h <;> simp only [Option.some.injEq, reduceCtorEq, Prod.mk.injEq] at h
        rename_i hsz1
        obtain ⟨rfl, rfl⟩ := h
        exact key _ hsz1 ⟨hp.1, rfl, hp.2⟩
    · split at h <;> simp only [Option.some.injEq, reduceCtorEq, Prod.mk.injEq] at h
      · rename_i s hag
        obtain ⟨rfl, rfl⟩ := h
        obtain ⟨hw1, hi, hj⟩ := hp
        obtain ⟨b, vs, rest, e, fz, hb, rfl, h2, h4⟩ := live hw1 (by omega)
        have hci : c[i]? = some c[i] := List.getElem?_eq_getElem hi
        have hcl := h4.2.1 i _ hci
        have hcj : c[i].cells[j]? = some c[i].cells[j] := List.getElem?_eq_getElem (by omega)
        obtain ⟨v, hv1, hv2, hv3⟩ := h4.2.2 i _ j _ hci hcj
        have hcell : w.cell? ⟨b, i * sz + j, none⟩ = some v := by
          rw [cell_blk h2]
          have hlt := (List.getElem?_eq_some_iff.1 hv1).1
          simp [List.getElem?_append_left hlt, hv1]
        refine ⟨v, by simp [Instr.loadAt, Instr.sureAddr, loadVar, run_isAgg' hag, hcell], ?_⟩
        simpa [List.getD_eq_getElem?_getD, hci, hcj] using hv3
      · rename_i n hag hsz
        obtain ⟨rfl, rfl⟩ := h
        obtain ⟨hw1, hi, hj⟩ := hp
        obtain ⟨b, vs, rest, e, fz, hb, rfl, h2, h4⟩ := live hw1 (by omega)
        have hci : c[i]? = some c[i] := List.getElem?_eq_getElem hi
        have hcl := h4.2.1 i _ hci
        have hgd : c.getD i d = c[i] := by simp [List.getD_eq_getElem?_getD, hci]
        let us := (vs.drop (i * sz + j)).take n
        have hlen : us.length = n := by
          simp only [us, List.length_take, List.length_drop, h4.1]
          have := Nat.mul_le_mul_right sz (show i + 1 ≤ c.length by omega)
          rw [Nat.add_mul, Nat.one_mul] at this
          omega
        have hus : ∀ (k : Nat) (v : Value), us[k]? = some v → k < n ∧ vs[i * sz + (j + k)]? = some v := by
          intro k v hk
          have hlt : k < n := by rw [← hlen]; exact (List.getElem?_eq_some_iff.1 hk).1
          refine ⟨hlt, ?_⟩
          simp only [us, List.getElem?_take, if_pos hlt, List.getElem?_drop] at hk
          rw [← Nat.add_assoc]; exact hk
        have hcell := run_loadCells' (P := P) (w := w) (b := b) (o := i * sz + j) us (fun k v hk => by
          obtain ⟨_, hv⟩ := hus k v hk
          rw [cell_blk h2]
          have hlt := (List.getElem?_eq_some_iff.1 hv).1
          rw [show i * sz + j + k = i * sz + (j + k) by omega]
          simp [List.getElem?_append_left hlt, hv])
        rw [hlen] at hcell
        have hone : ∀ (k : Nat) (v : Value), us[k]? = some v → ∃ y, c[i].cells[j + k]? = some y ∧ v.oneCell' = true ∧ R w ok L φ y v := by
          intro k v hk
          obtain ⟨hlt, hv⟩ := hus k v hk
          have hcj : c[i].cells[j + k]? = some c[i].cells[j + k] := List.getElem?_eq_getElem (by omega)
          obtain ⟨v', hv1, hv2, hv3⟩ := h4.2.2 i _ (j + k) _ hci hcj
          rw [hv] at hv1; cases hv1
          exact ⟨_, hcj, hv2, hv3⟩
        refine ⟨.agg us.toArray, ?_, .agg _ us ?_ (fun k v hk => ?_) (fun k a v ha hk => ?_)⟩
        · simp [Instr.loadAt, Instr.sureAddr, loadVar, run_isAgg' hag, run_sizeOf' hsz, hcell]
        · rw [hgd, hlen, List.length_take, List.length_drop, hcl]; omega
        · obtain ⟨y, _, h5, _⟩ := hone k v hk; exact h5
        · obtain ⟨y, h5, _, h6⟩ := hone k v hk
          rw [hgd, List.getElem?_take, if_pos (hus k v hk).1, List.getElem?_drop, h5] at ha
          cases ha; exact h6
      all_goals simp at h
  · simp at h
/-- In a block of single cells a pointer into an element is one to a later element. -/
def norm1 (L : Nat → Option Blk) : AV → AV
  | .ptr id i (j + 1) hw => match L id with
    | some (.cells 1 _ _ _) => .ptr id (i + (j + 1)) 0 hw
    | _ => .ptr id i (j + 1) hw
  | x => x
theorem norm1_ptr0 {L : Nat → Option Blk} {id i hw : Nat} : norm1 L (.ptr id i 0 hw) = .ptr id i 0 hw := rfl
theorem R.norm1 {w : World} {ok : Nat → Nat → Prop} {L : Nat → Option Blk} {φ : Nat → Option Nat} {x : AV} {v : Value} (h : R w ok L φ x v) : R w ok L φ (norm1 L x) v := by
  unfold Abs.norm1
  split
  · rename_i id i j hw
    split
    · rename_i ro d c hL
      obtain ⟨pa, sz', ro', d', c', rfl, hL', hle, hr⟩ := h.ptrInv
      rw [hL] at hL'; cases hL'
      refine .ptr id _ 0 hw _ 1 ro d c hL hle (fun e => ?_)
      obtain ⟨b, h1, h2⟩ := hr e
      exact ⟨b, h1, by rw [h2]; simp⟩
    · exact h
  · exact h
def rdLoad (P : Program) (L : Nat → Option Blk) (t : TypeId) (x : AV) : Option (AV × Prop) := rdLoad0 P L t (norm1 L x)
theorem rdLoad_ok {P t x v' p w ok L φ vx} (h : rdLoad P L t x = some (v', p)) (hp : p) (hh : HeapOK w ok L φ) (hx : R w ok L φ x vx) :
    ∃ v, (Instr.loadAt t vx).run P w = .ok v w ∧ R w ok L φ v' v := rdLoad0_ok h hp hh hx.norm1
theorem rdLoad_congr {P : Program} {L L' : Nat → Option Blk} {t : TypeId} {id i j hw : Nat} (hL : L id = L' id) : rdLoad P L t (.ptr id i j hw) = rdLoad P L' t (.ptr id i j hw) := by
  have e : norm1 L (.ptr id i j hw) = norm1 L' (.ptr id i j hw) := by cases j <;> simp only [norm1, hL]
  have k : ∀ i j, rdLoad0 P L t (.ptr id i j hw) = rdLoad0 P L' t (.ptr id i j hw) := fun i j => by simp only [rdLoad0, hL]
  simp only [rdLoad, e]
  cases j with
  | zero => exact k i 0
  | succ j =>
    simp only [norm1]
    split <;> exact k _ _
end Go.Abs
