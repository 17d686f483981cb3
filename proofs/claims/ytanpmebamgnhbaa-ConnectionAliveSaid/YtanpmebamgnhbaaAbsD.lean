/- Blocks of the call's own: made, read, written. No condition. -/
import Derived.Test.YtanpmebamgnhbaaAbsC2
set_option linter.unusedVariables false
set_option linter.unusedSimpArgs false
namespace Go.Abs

/-- The same but for block g. -/
structure Wr (g : Nat) (w w' : World) : Prop where
  os : w'.os = w.os
  tape : w'.tape = w.tape
  output : w'.output = w.output
  size : w'.heap.size = w.heap.size
  block : ∀ k, k ≠ g → w'.heap[k]? = w.heap[k]?

theorem Wr.refl (g w) : Wr g w w := ⟨rfl, rfl, rfl, rfl, fun _ _ => rfl⟩
theorem Wr.trans {g a b c} (h : Wr g a b) (k : Wr g b c) : Wr g a c :=
  ⟨k.os.trans h.os, k.tape.trans h.tape, k.output.trans h.output, k.size.trans h.size, fun i hi => (k.block i hi).trans (h.block i hi)⟩

/-- One block more. -/
structure Grow (o : Obj) (w w' : World) : Prop where
  os : w'.os = w.os
  tape : w'.tape = w.tape
  output : w'.output = w.output
  size : w'.heap.size = w.heap.size + 1
  block : ∀ k, k < w.heap.size → w'.heap[k]? = w.heap[k]?
  new : w'.heap[w.heap.size]? = some o

theorem Grow.alloc (w : World) (o : Obj) : Grow o w (w.alloc o) :=
  ⟨rfl, rfl, rfl, by simp, fun k hk => heap_alloc_old w o k hk, heap_alloc_new w o⟩
theorem Grow.drewAlloc (w : World) (o : Obj) : Grow o w (w.drew.alloc o) :=
  ⟨rfl, rfl, rfl, by simp, fun k hk => heap_alloc_old w.drew o k hk, heap_alloc_new w.drew o⟩

theorem cell_blk {w : World} {b o : Nat} {cs : Array Value} {e : TypeId} {fz : Nat × Nat} (h : w.heap[b]? = some (.cells cs e fz)) :
    w.cell? ⟨b, o, none⟩ = cs[o]? := by simp [World.cell?, h]

theorem run_storeCells_blk {P : Program} (g o : Nat) (e : TypeId) (lo hi : Nat) : ∀ (us : List Value) (i : Nat) (cur : List Value) (w : World),
    w.heap[g]? = some (.cells cur.toArray e (lo, hi)) → (∀ k, k < cur.length → ¬ (lo ≤ k ∧ k < hi)) → o + i + us.length ≤ cur.length → (∀ u ∈ us, u.oneCell' = true) →
    ∃ w', (storeCells ⟨g, o, none⟩ us i).run P w = .ok () w' ∧ Wr g w w' ∧
      w'.heap[g]? = some (.cells (cur.take (o + i) ++ (us ++ cur.drop (o + i + us.length))).toArray e (lo, hi))
  | [], i, cur, w, hg, _, _, _ => ⟨w, by simp [storeCells], Wr.refl g w, by simpa using hg⟩
  | v :: rest, i, cur, w, hg, hf, hl, h1 => by
    have hi' : o + i < cur.length := by simp at hl; omega
    have hcell : w.cell? ⟨g, o + i, none⟩ = some cur[o + i] := by rw [cell_blk hg]; simp [hi']
    have hfro : w.frozen? ⟨g, o + i, none⟩ = false := by
      have := hf (o + i) hi'
      simp only [World.frozen?, hg]
      simp only [Bool.and_eq_false_iff, decide_eq_false_iff_not]
      omega
    have hst : (store ((⟨g, o, none⟩ : Addr).add i) v).run P w = .ok () (w.setCell ⟨g, o + i, none⟩ v) := by
      rw [addr_add_plain, run_store P w _ v _ (h1 v (by simp)), hcell]
      simp [hfro]
    have hset : (w.setCell ⟨g, o + i, none⟩ v).heap[g]? = some (.cells (cur.set (o + i) v).toArray e (lo, hi)) := by
      simp only [World.setCell, Array.getElem?_modify, if_true, hg, Option.map_some]
      simp
    obtain ⟨w', h2, h3, h4⟩ := run_storeCells_blk (P := P) g o e lo hi rest (i + 1) (cur.set (o + i) v) (w.setCell ⟨g, o + i, none⟩ v) hset
      (fun k hk => hf k (by simpa using hk)) (by simp at hl ⊢; omega) (fun u hu => h1 u (by simp [hu]))
    have hwr : Wr g w (w.setCell ⟨g, o + i, none⟩ v) := ⟨rfl, rfl, rfl, by simp, fun k hk => by simp only [World.setCell, Array.getElem?_modify]; rw [if_neg (by omega)]⟩
    refine ⟨w', ?_, hwr.trans h3, ?_⟩
    · simp only [storeCells, Sem.run_bind, hst, Result.andThen_ok, h2]
    · rw [h4]
      congr 3
      have e := list_seg_step cur (o + i) v rest (by simp at hl ⊢; omega)
      simpa [Nat.add_assoc] using e

def updL (L : Nat → Option Blk) (id : Nat) (b : Blk) : Nat → Option Blk := fun i => if id = i then some b else L i
def updP (φ : Nat → Option Nat) (id : Nat) (b : Option Nat) : Nat → Option Nat := fun i => if id = i then b else φ i

theorem lk_upd1 (st : St) (id : Nat) (b : Blk) : (st.upd [(id, b)]).lk = updL st.lk id b := by
  funext i; simp [St.upd, St.lk, lkB, updL]
theorem lk_upd0 (st : St) : (st.upd []).lk = st.lk := rfl

theorem capOK_of_heap {w w' : World} {b n : Nat} (h : w'.heap[b]? = w.heap[b]?) (hc : CapOK w b n) : CapOK w' b n := by
  obtain ⟨cur, e, fz, h1, h2⟩ := hc
  exact ⟨cur, e, fz, by rw [h]; exact h1, h2⟩
theorem capOK_lt {w : World} {b n : Nat} (hc : CapOK w b n) : b < w.heap.size := by
  obtain ⟨cur, e, fz, h1, _⟩ := hc
  exact (Array.getElem?_eq_some_iff.1 h1).1

/-- The blocks live, and what they are. -/
theorem HeapOK.live {w ok L φ id b} (h : HeapOK w ok L φ) (hb : φ id = some b) :
    (∃ sz ro d c vs rest e lo hi, L id = some (.cells sz ro d c) ∧ w.heap[b]? = some (.cells (vs ++ rest).toArray e (lo, hi)) ∧
      (∀ o, o < (vs ++ rest).length → ¬ (lo ≤ o ∧ o < hi)) ∧ RE w ok L φ sz c vs) ∨
    (∃ blk o, L id = some blk ∧ w.heap[b]? = some o ∧ ObjR w ok L φ blk o) := by
  have nc : ∀ blk, L id = some blk → blk.isC = false → ∃ blk o, L id = some blk ∧ w.heap[b]? = some o ∧ ObjR w ok L φ blk o := fun blk hL hc => by
    obtain ⟨k, o, h1, h2, h3⟩ := h.obj id blk hL hc
    rw [hb] at h1; cases h1
    exact ⟨blk, o, hL, h2, h3⟩
  cases hL : L id with
  | none => rw [h.dom id hL] at hb; cases hb
  | some blk =>
    cases blk with
    | cells sz ro d c =>
      rcases h.blk id sz ro d c hL with ⟨h1, _⟩ | ⟨b', vs, rest, e, lo, hi, h1, h2, h3, h4⟩
      · rw [hb] at h1; cases h1
      · rw [hb] at h1; cases h1
        exact .inl ⟨sz, ro, d, c, vs, rest, e, lo, hi, rfl, h2, h3, h4⟩
    | iter s pos => exact .inr (hL ▸ nc _ hL rfl)
    | loop lc st pd sl => exact .inr (hL ▸ nc _ hL rfl)
    | defer => exact .inr (hL ▸ nc _ hL rfl)
theorem HeapOK.lt {w ok L φ id b} (h : HeapOK w ok L φ) (hb : φ id = some b) : b < w.heap.size := by
  rcases h.live hb with ⟨_, _, _, _, _, _, _, _, _, _, h2, _⟩ | ⟨_, _, _, h2, _⟩ <;> exact (Array.getElem?_eq_some_iff.1 h2).1

/-- A new block. -/
theorem Ext.new {w0 X L ok φ w w' id blk o} (h : HeapOK w ok L φ) (hw0 : w0.heap.size ≤ w.heap.size) (hid : L id = none) (hg : Grow o w w')
    (hblk : (∃ sz ro d c vs rest e lo hi, blk = .cells sz ro d c ∧ o = .cells (vs ++ rest).toArray e (lo, hi) ∧ (∀ k, k < (vs ++ rest).length → ¬ (lo ≤ k ∧ k < hi)) ∧ RE w ok L φ sz c vs) ∨
      ObjR w ok L φ blk o) :
    Ext w0 X L ok φ w (updL L id blk) ok (updP φ id (some w.heap.size)) w' := by
  have hc : ∀ b o, ok b o → w'.cell? ⟨b, o, none⟩ = w.cell? ⟨b, o, none⟩ := fun b o hb =>
    World.cell?_of_block (a := ⟨b, o, none⟩) (hg.block b (h.shut b o hb).1)
  have hne : ∀ i blk', L i = some blk' → id ≠ i := fun i blk' hi e => by subst e; rw [hid] at hi; cases hi
  have hφn : φ id = none := h.dom id hid
  have keep : Keeps w ok L φ w' ok (updL L id blk) (updP φ id (some w.heap.size)) := by
    refine ⟨fun _ _ h => h, hc, fun i sz ro d c hi => ⟨ro, d, c, by simp [updL, hne i _ hi, hi], Nat.le_refl _, fun _ => ⟨by simp [updP, hne i _ hi], fun b n hb hcap => ?_⟩⟩,
      fun i bb hi hcc => ⟨bb, by simp [updL, hne i _ hi, hi], Blk.same_refl hcc, by simp [updP, hne i _ hi]⟩⟩
    exact capOK_of_heap (hg.block b (capOK_lt hcap)) hcap
  have hk := fun a v hr => R.keep (a := a) (v := v) keep hr
  refine ⟨keep, ⟨?_, ?_, ?_, ?_, ?_⟩, ?_, ?_, fun _ _ _ _ h => .inl h⟩
  · intro i sz ro d c hi
    by_cases e : id = i
    · subst e
      simp only [updL, if_true, Option.some.injEq] at hi
      subst hi
      rcases hblk with ⟨sz', ro', d', c', vs, rest, e, lo, hi', h1, h2, h3, h4⟩ | h1
      · cases h1
        subst h2
        exact .inr ⟨w.heap.size, vs, rest, e, lo, hi', by simp [updP], hg.new, h3, h4.keep hk⟩
      · have := h1.notC; simp [Blk.isC] at this
    · simp only [updL, if_neg e] at hi
      simp only [updP, if_neg e]
      rcases h.blk i sz ro d c hi with h1 | ⟨b, vs, rest, ee, lo, hi', h1, h2, h3, h4⟩
      · exact .inl h1
      · exact .inr ⟨b, vs, rest, ee, lo, hi', h1, by rw [hg.block b (h.lt h1)]; exact h2, h3, h4.keep hk⟩
  · intro i bb hi hcc
    by_cases e : id = i
    · subst e
      simp only [updL, if_true, Option.some.injEq] at hi
      subst hi
      rcases hblk with ⟨sz', ro', d', c', vs, rest, e, lo, hi', h1, _⟩ | h1
      · subst h1; simp [Blk.isC] at hcc
      · exact ⟨w.heap.size, o, by simp [updP], hg.new, h1.keep hk⟩
    · simp only [updL, if_neg e] at hi
      obtain ⟨b, o', h1, h2, h3⟩ := h.obj i bb hi hcc
      exact ⟨b, o', by simp [updP, e, h1], by rw [hg.block b (h.lt h1)]; exact h2, h3.keep hk⟩
  · intro i hi
    by_cases e : id = i
    · subst e; simp [updL] at hi
    · simp only [updL, if_neg e] at hi; simp [updP, e, h.dom i hi]
  · intro i j b hi hj
    simp only [updP] at hi hj
    split at hi <;> split at hj
    · omega
    · rename_i e1 e2; cases hi; exact absurd (h.lt hj) (by omega)
    · rename_i e1 e2; cases hj; exact absurd (h.lt hi) (by omega)
    · exact h.inj i j b hi hj
  · intro b o hb
    obtain ⟨h1, h2⟩ := h.shut b o hb
    refine ⟨by rw [hg.size]; omega, fun i hi => ?_⟩
    simp only [updP] at hi
    split at hi
    · cases hi; omega
    · rename_i e; simp only [updL, if_neg e]; exact h2 i hi
  · intro _ hf
    exact hf.trans (X := X) (Y := fun _ => False) ⟨hg.os, hg.tape, hg.output, by rw [hg.size]; omega, fun k hk _ => hg.block k hk⟩ (fun _ h => h.elim)
  · intro ho _ i b hi
    simp only [updP] at hi
    split at hi
    · cases hi; exact .inr hw0
    · exact ho i b hi

/-- A block that was written, and holds the same number of elements, or is an iterator. -/
theorem Ext.wrote {w0 X L ok φ w w' id b blk} (h : HeapOK w ok L φ) (hb : φ id = some b) (hw : Wr b w w')
    (hblk : (∃ sz d c d' c' vs rest e lo hi, L id = some (.cells sz false d c) ∧ blk = .cells sz false d' c' ∧ c'.length = c.length ∧ w'.heap[b]? = some (.cells (vs ++ rest).toArray e (lo, hi)) ∧
        (∀ k, k < (vs ++ rest).length → ¬ (lo ≤ k ∧ k < hi)) ∧ RE w ok L φ sz c' vs ∧ (∀ n, CapOK w b n → CapOK w' b n)) ∨
      (∃ blk0 o, L id = some blk0 ∧ blk0.same blk ∧ w'.heap[b]? = some o ∧ ObjR w ok L φ blk o)) :
    Ext w0 X L ok φ w (updL L id blk) ok φ w' := by
  have hnb : ∀ k o, ok k o → k ≠ b := fun k o hk e => by
    subst e
    obtain ⟨sz, d, c, h1, _⟩ := (h.shut k o hk).2 id hb
    rcases hblk with ⟨_, _, _, _, _, _, _, _, _, _, h2, _⟩ | ⟨_, _, h2, h3, _⟩
    · rw [h1] at h2; cases h2
    · rw [h1] at h2; cases h2; have := Blk.same_notC' h3; simp [Blk.isC] at this
  have hc : ∀ k o, ok k o → w'.cell? ⟨k, o, none⟩ = w.cell? ⟨k, o, none⟩ := fun k o hk =>
    World.cell?_of_block (a := ⟨k, o, none⟩) (hw.block k (hnb k o hk))
  have hother : ∀ i k, φ i = some k → i ≠ id → k ≠ b := fun i k hi hne e => hne (h.inj i id b (e ▸ hi) hb)
  have hcap : ∀ k n, CapOK w k n → CapOK w' k n := fun k n hk => by
    by_cases e : k = b
    · subst e
      rcases hblk with ⟨_, _, _, _, _, _, _, _, _, _, _, _, _, _, _, _, h2⟩ | ⟨blk0, o, h1, hs, _⟩
      · exact h2 n hk
      · obtain ⟨b', o', h3, h4, h6⟩ := h.obj id blk0 h1 (Blk.same_notC' hs)
        rw [hb] at h3; cases h3
        obtain ⟨_, _, _, h5, _⟩ := hk
        rw [h4] at h5; cases h5
        exact absurd rfl h6.notCells
    · exact capOK_of_heap (hw.block k e) hk
  have keep : Keeps w ok L φ w' ok (updL L id blk) φ := by
    refine ⟨fun _ _ h => h, hc, fun i sz ro d c hi => ?_, fun i bb hi hcc => ?_⟩
    · by_cases e : id = i
      · subst e
        rcases hblk with ⟨sz', d1, c1, d', c', vs, rest, e, lo, hi', h1, h2, h3, _⟩ | ⟨blk0, o, h1, h2, _⟩
        · rw [hi] at h1; cases h1
          exact ⟨false, d', c', by simp [updL, h2], by omega, fun _ => ⟨rfl, fun b' n _ hk => hcap b' n hk⟩⟩
        · rw [hi] at h1; cases h1; have := Blk.same_notC' h2; simp [Blk.isC] at this
      · exact ⟨ro, d, c, by simp [updL, e, hi], Nat.le_refl _, fun _ => ⟨rfl, fun b' n _ hk => hcap b' n hk⟩⟩
    · by_cases e : id = i
      · subst e
        rcases hblk with ⟨sz', d1, c1, d', c', vs, rest, e, lo, hi', h1, h2, h3, _⟩ | ⟨blk0, o, h1, h2, _⟩
        · rw [hi] at h1; cases h1; simp [Blk.isC] at hcc
        · rw [hi] at h1; cases h1
          exact ⟨blk, by simp [updL], h2, rfl⟩
      · exact ⟨bb, by simp [updL, e, hi], Blk.same_refl hcc, rfl⟩
  have hk := fun a v hr => R.keep (a := a) (v := v) keep hr
  refine ⟨keep, ⟨?_, ?_, ?_, h.inj, ?_⟩, ?_, fun ho _ => ho, fun _ _ _ _ h => .inl h⟩
  · intro i sz ro d c hi
    by_cases e : id = i
    · subst e
      simp only [updL, if_true, Option.some.injEq] at hi
      subst hi
      rcases hblk with ⟨sz', d1, c1, d', c', vs, rest, e, lo, hi', h1, h2, h3, h4, h5, h6, _⟩ | ⟨blk0, o, _, h1, _⟩
      · cases h2
        exact .inr ⟨b, vs, rest, e, lo, hi', hb, h4, h5, h6.keep hk⟩
      · have := Blk.same_notC h1; simp [Blk.isC] at this
    · simp only [updL, if_neg e] at hi
      rcases h.blk i sz ro d c hi with h1 | ⟨b', vs, rest, ee, lo, hi', h1, h2, h3, h4⟩
      · exact .inl h1
      · exact .inr ⟨b', vs, rest, ee, lo, hi', h1, by rw [hw.block b' (hother i b' h1 (Ne.symm e))]; exact h2, h3, h4.keep hk⟩
  · intro i bb hi hcc
    by_cases e : id = i
    · subst e
      simp only [updL, if_true, Option.some.injEq] at hi
      subst hi
      rcases hblk with ⟨sz', d1, c1, d', c', vs, rest, e, lo, hi', h1, h2, _⟩ | ⟨blk0, o, _, h1, h2, h3⟩
      · subst h2; simp [Blk.isC] at hcc
      · exact ⟨b, o, hb, h2, h3.keep hk⟩
    · simp only [updL, if_neg e] at hi
      obtain ⟨b', o', h1, h2, h3⟩ := h.obj i bb hi hcc
      exact ⟨b', o', h1, by rw [hw.block b' (hother i b' h1 (Ne.symm e))]; exact h2, h3.keep hk⟩
  · intro i hi
    by_cases e : id = i
    · subst e; simp [updL] at hi
    · simp only [updL, if_neg e] at hi; exact h.dom i hi
  · intro k o hk'
    obtain ⟨h1, h2⟩ := h.shut k o hk'
    refine ⟨by rw [hw.size]; exact h1, fun i hi => ?_⟩
    have hne : id ≠ i := fun e => by subst e; rw [hb] at hi; cases hi; exact hnb _ _ hk' rfl
    simp only [updL, if_neg hne]; exact h2 i hi
  · intro ho hf
    refine ⟨hw.os.trans hf.os, hw.tape.trans hf.tape, hw.output.trans hf.output, by rw [hw.size]; exact hf.size, fun k hk hx => ?_⟩
    have hne : k ≠ b := fun e => by
      subst e
      rcases ho id k hb with h1 | h1
      · exact hx h1
      · omega
    rw [hw.block k hne]
    exact hf.block k hk hx
end Go.Abs
