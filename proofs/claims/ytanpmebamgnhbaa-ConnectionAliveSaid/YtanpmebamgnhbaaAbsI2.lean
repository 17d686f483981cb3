/- copy and clear. No condition. -/
import Derived.Test.YtanpmebamgnhbaaAbsI
set_option linter.unusedVariables false
set_option linter.unusedSimpArgs false
namespace Go.Abs

theorem RE.replicate {w ok L φ sz} {d : AV} {u : Value} {k : Nat} (hdl : d.cells.length = sz) (hrc : RC w ok L φ d.cells u.cells.toList) : RE w ok L φ sz (List.replicate k d) (Builtin.zeroCells u.cells k).toList := by
  have hus : u.cells.size = sz := by have := hrc.1; simp at this; omega
  have hcell : ∀ j, j < sz → u.cells.toList[j]? = some u.cells[j]! := fun j hj => by
    have hj' : j < u.cells.size := by omega
    simp [hj', getElem!_pos]
  refine ⟨by simp [Builtin.zeroCells, hus], fun i x hx => ?_, fun i x j y hx hy => ?_⟩
  · rw [List.getElem?_replicate] at hx
    split at hx
    · cases hx; exact hdl
    · simp at hx
  · rw [List.getElem?_replicate] at hx
    split at hx
    · rename_i hik
      cases hx
      have hj : j < sz := by rw [← hdl]; exact (List.getElem?_eq_some_iff.1 hy).1
      have hlt := idx_lt hik hj
      refine ⟨u.cells[j]!, ?_, hrc.2.1 j _ (hcell j hj), hrc.2.2 j _ _ hy (hcell j hj)⟩
      simp only [Builtin.zeroCells, hus, Array.toList_map, Array.toList_range, List.getElem?_map, List.getElem?_range hlt, Option.map_some]
      rw [Nat.mul_comm, Nat.mul_add_mod, Nat.mod_eq_of_lt hj]
    · simp at hx

/-- Elements written over others. -/
theorem Ext.splice {P : Program} {w0 X L ok φ w id b sz d c l us vs rest e lo hi} (h : HeapOK w ok L φ) (hL : L id = some (.cells sz false d c)) (hb : φ id = some b)
    (hold : w.heap[b]? = some (.cells (vs ++ rest).toArray e (lo, hi))) (hfz : ∀ k, k < (vs ++ rest).length → ¬ (lo ≤ k ∧ k < hi)) (hre : RE w ok L φ sz c vs) (hrl : RE w ok L φ sz l us) (off : Nat) (hle : off + l.length ≤ c.length) :
    ∃ w', (storeCells ⟨b, off * sz, none⟩ us).run P w = .ok () w' ∧ Ext w0 X L ok φ w (updL L id (.cells sz false d (c.take off ++ (l ++ c.drop (off + l.length))))) ok φ w' := by
  have hul := hrl.1
  have hvl := hre.1
  have hmul : off * sz + l.length * sz ≤ c.length * sz := by rw [← Nat.add_mul]; exact Nat.mul_le_mul_right _ hle
  obtain ⟨w', h5, h6, h7⟩ := run_storeCells_blk (P := P) b (off * sz) e lo hi us 0 (vs ++ rest) w hold hfz (by simp only [List.length_append]; omega) hrl.ones
  simp only [Nat.add_zero] at h7
  have e1 : (vs ++ rest).take (off * sz) ++ (us ++ (vs ++ rest).drop (off * sz + us.length)) = (vs.take (off * sz) ++ (us ++ vs.drop (off * sz + us.length))) ++ rest := by
    rw [List.take_append_of_le_length (by omega), List.drop_append_of_le_length (by omega)]
    simp [List.append_assoc]
  rw [e1] at h7
  have hlen : (vs.take (off * sz) ++ (us ++ vs.drop (off * sz + us.length))).length = vs.length := by
    simp only [List.length_append, List.length_take, List.length_drop]; omega
  have r1 := hre.sub 0 off
  have r3 := hre.sub (off + l.length) (c.length - (off + l.length))
  simp only [List.drop_zero, Nat.zero_mul] at r1
  have e3 : (c.drop (off + l.length)).take (c.length - (off + l.length)) = c.drop (off + l.length) := List.take_of_length_le (by simp)
  have e4 : (vs.drop ((off + l.length) * sz)).take ((c.length - (off + l.length)) * sz) = vs.drop (off * sz + us.length) := by
    rw [hul, Nat.add_mul]
    refine List.take_of_length_le ?_
    rw [List.length_drop, hvl, Nat.sub_mul, Nat.add_mul]
    exact Nat.le_refl _
  rw [e3, e4] at r3
  have hnew := r1.append (hrl.append r3)
  refine ⟨w', h5, Ext.wrote h hb h6 (.inl ⟨sz, d, c, d, _, _, rest, e, lo, hi, hL, rfl, ?_, h7, fun k hk => hfz k ?_, hnew, fun n hc => ?_⟩)⟩
  · simp only [List.length_append, List.length_take, List.length_drop]; omega
  · simp only [List.length_append] at hk hlen ⊢; omega
  · obtain ⟨cur, e', fz, g1, g2⟩ := hc
    rw [hold] at g1; cases g1
    refine ⟨_, _, _, h7, ?_⟩
    simp only [List.size_toArray, List.length_append] at g2 hlen ⊢; omega

theorem updL_same {L : Nat → Option Blk} {id : Nat} {b : Blk} (h : L id = some b) : updL L id b = L := by
  funext i; simp only [updL]; split
  · rename_i e; subst e; exact h.symm
  · rfl

/-- A slice of one's own: what lies under it. -/
theorem ref_live {w ok L φ id off len hw v sz ro d c} (hh : HeapOK w ok L φ) (hx : R w ok L φ (.ref id off len hw) v) (hL : L id = some (.cells sz ro d c)) (hw1 : hw = c.length) :
    off + len ≤ c.length ∧ ∃ a cap, v = .slice a len cap ∧ (len = 0 ∨ ∃ b vs rest e lo hi, a = some ⟨b, off * sz, none⟩ ∧ φ id = some b ∧ w.heap[b]? = some (.cells (vs ++ rest).toArray e (lo, hi)) ∧
      (∀ k, k < (vs ++ rest).length → ¬ (lo ≤ k ∧ k < hi)) ∧ RE w ok L φ sz c vs) := by
  obtain ⟨sz1, ro1, d1, c1, hL1, hle, ⟨a, n, m, rfl⟩, hr⟩ := hx.refInv
  rw [hL] at hL1; cases hL1
  obtain ⟨g1, g2⟩ := hr hw1
  refine ⟨by omega, ?_⟩
  rcases g2 with ⟨g2, a1, g3⟩ | ⟨b, cap, pa, g2, g3, g4, g5, g6⟩
  · cases g3
    obtain rfl : len = 0 := by omega
    exact ⟨a, 0, rfl, .inl rfl⟩
  · cases g3
    refine ⟨_, _, rfl, ?_⟩
    rcases g6 with g6 | ⟨rfl, _⟩
    · exact .inl (by omega)
    · rcases hh.live g2 with ⟨sz1, ro1, d1, c1, vs, rest, e, lo, hi, h1, h2, h3, h4⟩ | ⟨blk, o, h1, _, ho⟩
      · rw [hL] at h1; cases h1
        exact .inr ⟨b, vs, rest, e, lo, hi, rfl, g2, h2, h3, h4⟩
      · rw [hL] at h1; cases h1; cases ho

def efCopy (P : Program) (L : Nat → Option Blk) (dT : TypeId) (s x : AV) : Option (AV × Nat × Blk × Prop) :=
  match P.underlying dT with
  | some (.slice el) => match s with
    | .ref i off len hw => match L i with
      | some (.cells sz false d c) => match srcA L sz x with
        | some (l, q) => some (.int .i64 (min l.length len : Nat), i, .cells sz false d (c.take off ++ (l.take (min l.length len) ++ c.drop (off + min l.length len))), q ∧ szT P el = some sz ∧ hw = c.length)
        | none => none
      | _ => none
    | _ => none
  | _ => none

theorem efCopy_ok {P L dT sT s x ty v' id' blk p w0 X ok φ w vs vx} (h : efCopy P L dT s x = some (v', id', blk, p)) (hp : p) (hh : HeapOK w ok L φ)
    (hs : R w ok L φ s vs) (hx : R w ok L φ x vx) : EffOK P w0 X (Builtin.copy_ #[dT, sT] ty #[vs, vx]) L ok φ w v' id' blk := by
  unfold efCopy at h
  split at h
  · rename_i el hu
    split at h
    · rename_i i off len hw
      split at h
      · rename_i sz d c hL
        split at h <;> simp only [Option.some.injEq, reduceCtorEq, Prod.mk.injEq] at h
        rename_i l q hsrc
        obtain ⟨rfl, rfl, rfl, rfl⟩ := h
        obtain ⟨hq, hsz, hw1⟩ := hp
        obtain ⟨g1, a, cap, rfl, g2⟩ := ref_live hh hs hL hw1
        obtain ⟨ns, hre, hrun⟩ := src_ok (P := P) hsrc hq hh hx
        obtain ⟨r1, r2⟩ := hrun w rfl
        have hmin : Nat.min l.length len = min l.length len := rfl
        by_cases h0 : min l.length len = 0
        · refine ⟨.int .i64 0, w, φ, ?_, ?_, by rw [h0]; exact .pure _ _ (.int _ _)⟩
          · have e0 := r2 0 (Nat.zero_le _)
            simp only [Nat.zero_mul, List.take_zero] at e0
            cases a <;> simp [Builtin.copy_, run_underlying hu, r1, hmin, h0, run_sizeOf' hsz, e0, storeCells, goInt]
          · rw [h0]
            have e1 : c.take off ++ (l.take 0 ++ c.drop (off + 0)) = c := by simp
            rw [e1, updL_same hL]
            exact Ext.refl hh
        · rcases g2 with g2 | ⟨b, bs, rest, e, lo, hi, rfl, k1, k2, k3, k4⟩
          · subst g2; simp at h0
          · have hsub := hre.sub 0 (min l.length len)
            simp only [List.drop_zero, Nat.zero_mul] at hsub
            have hlm : (l.take (min l.length len)).length = min l.length len := by simp only [List.length_take]; omega
            obtain ⟨w', h5, hx'⟩ := Ext.splice (P := P) (w0 := w0) (X := X) hh hL k1 k2 k3 k4 hsub off (by rw [hlm]; omega)
            rw [hlm] at hx'
            refine ⟨_, w', φ, ?_, hx', .pure _ _ (.int _ _)⟩
            simp [Builtin.copy_, run_underlying hu, r1, hmin, run_sizeOf' hsz, r2 _ (Nat.min_le_left _ _), h5, goInt]
      · simp at h
    · simp at h
  · simp at h

def efClear (P : Program) (L : Nat → Option Blk) (t : TypeId) (x : AV) : Option (AV × Nat × Blk × Prop) :=
  match P.underlying t with
  | some (.slice el) => match x with
    | .ref i off len hw => match L i, zT P el with
      | some (.cells sz false d c), some z => some (.any, i, .cells sz false d (c.take off ++ (List.replicate len z ++ c.drop (off + len))), hw = c.length ∧ z.cells.all AV.flat = true ∧ z.cells.length = sz)
      | _, _ => none
    | _ => none
  | _ => none

theorem efClear_ok {P L t x ty v' id' blk p w0 X ok φ w vx} (h : efClear P L t x = some (v', id', blk, p)) (hp : p) (hh : HeapOK w ok L φ) (hx : R w ok L φ x vx) :
    EffOK P w0 X (Builtin.clear_ #[t] ty #[vx]) L ok φ w v' id' blk := by
  unfold efClear at h
  split at h
  · rename_i el hu
    split at h
    · rename_i i off len hw
      split at h <;> simp only [Option.some.injEq, reduceCtorEq, Prod.mk.injEq] at h
      rename_i sz d c z hL hz
      obtain ⟨rfl, rfl, rfl, rfl⟩ := h
      obtain ⟨hw1, hf, hzl⟩ := hp
      obtain ⟨g1, a, cap, rfl, g2⟩ := ref_live hh hx hL hw1
      obtain ⟨inf, u, hi, hzu, _, _, hrc⟩ := zero_ok w ok L φ hz hf
      rcases g2 with g2 | ⟨b, bs, rest, e, lo, hi', rfl, k1, k2, k3, k4⟩
      · subst g2
        refine ⟨.tuple #[], w, φ, ?_, ?_, .pure _ _ (.any _)⟩
        · cases a <;> simp [Builtin.clear_, run_underlying hu]
        · have e1 : c.take off ++ (List.replicate 0 z ++ c.drop (off + 0)) = c := by simp
          rw [e1, updL_same hL]
          exact Ext.refl hh
      · have hre := RE.replicate (k := len) hzl hrc
        obtain ⟨w', h5, hx'⟩ := Ext.splice (P := P) (w0 := w0) (X := X) hh hL k1 k2 k3 k4 hre off (by simp; omega)
        simp only [List.length_replicate] at hx'
        refine ⟨.tuple #[], w', φ, ?_, hx', .pure _ _ (.any _)⟩
        cases len with
        | zero =>
          have e0 : (Builtin.zeroCells u.cells 0).toList = [] := by simp [Builtin.zeroCells]
          rw [e0] at h5
          simp only [storeCells, Sem.run_pure] at h5
          cases h5
          simp [Builtin.clear_, run_underlying hu]
        | succ k => simp [Builtin.clear_, run_underlying hu, run_zero hi hzu, h5]
    · simp at h
  · simp at h
end Go.Abs
