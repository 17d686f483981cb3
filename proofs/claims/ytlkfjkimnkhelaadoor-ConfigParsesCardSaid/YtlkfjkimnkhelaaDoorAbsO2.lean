/- A drawn region as a whole; forgetting. No condition. -/
import Derived.Test.YtlkfjkimnkhelaaDoorAbsN
set_option linter.unusedVariables false
set_option linter.unusedSimpArgs false
namespace Go.Abs

section
variable {P : Program} {C : Tbl} {wr : Bool} {ops : Array Oper} {ser : List Nat}

theorem drawB_spec (h : drawB P ops.toList ser = true) :
    (∀ j oj, ops.toList[j]? = some oj → ∀ e ∈ oj.after.toList, Region.binds .any e = true → e.on < j) ∧
    ∀ (i j : Nat) (oi oj : Oper), ops[i]? = some oi → ops[j]? = some oj → i < j → ((befAll ops.toList []).getD j 0).testBit i = true ∨
      (oi.apart ops oj = true ∧ ((ser.contains i = true → clsN P oj.op = true) ∧ (ser.contains j = true → clsN P oi.op = true) ∨ (ser.contains i ≠ ser.contains j ∧ ∃ B, B ∈ codesOf ser i ∧ B ∈ codesOf ser j))) := by
  simp only [drawB, Bool.and_eq_true, List.all_eq_true] at h
  obtain ⟨_, h⟩ := h
  refine ⟨fun j oj hj e he hb => ?_, fun i j oi oj hi hj hij => ?_⟩
  · have hlt : j < ops.toList.length := (List.getElem?_eq_some_iff.1 hj).1
    have := h j (List.mem_range.2 hlt)
    rw [hj] at this
    simp only [Bool.and_eq_true, List.all_eq_true] at this
    have := this.1 e he
    simp only [hb, Bool.not_true, Bool.false_or, decide_eq_true_eq] at this
    exact this
  · have hj' : ops.toList[j]? = some oj := by simpa using hj
    have hi' : ops.toList[i]? = some oi := by simpa using hi
    have hlt : j < ops.toList.length := (List.getElem?_eq_some_iff.1 hj').1
    have := h j (List.mem_range.2 hlt)
    rw [hj'] at this
    simp only [Bool.and_eq_true, List.all_eq_true] at this
    have := this.2 i (List.mem_range.2 hij)
    rw [hi'] at this
    simp only [Bool.or_eq_true, Bool.and_eq_true, Array.toArray_toList, Bool.not_eq_true', Bool.not_eq_eq_eq_not, Bool.not_true] at this
    rcases this with this | ⟨h1, ⟨h2, h3⟩ | ⟨h2, h3⟩⟩
    · exact .inl this
    rotate_left
    · refine .inr ⟨h1, .inr ⟨by simpa using h2, ?_⟩⟩
      simp only [shareB, List.any_eq_true, List.contains_eq_mem, decide_eq_true_eq] at h3
      exact h3
    · refine .inr ⟨h1, .inl ⟨fun hs => ?_, fun hs => ?_⟩⟩
      · rcases h2 with h2 | h2
        · rw [hs] at h2; simp at h2
        · exact h2
      · rcases h3 with h3 | h3
        · rw [hs] at h3; simp at h3
        · exact h3

theorem befAll_len : ∀ (l : List Oper) (acc : List Nat), (befAll l acc).length = acc.length + l.length
  | [], acc => by simp [befAll]
  | o :: r, acc => by simp only [befAll, befAll_len r]; simp; omega

theorem WopsD.any {Q : St → Prop} (hQ : ∀ s t, StEq s t → Q s → Q t) (hB : drawB P ops.toList ser = true) : ∀ (l : List Oper) (k : Nat) (listed : Array Bool) (st : St), (∀ j, l[j]? = ops[k + j]?) →
    listed.size = ops.size → (∀ j, j < k → listed.getD j true = true) → (∀ j, j < k → listed.getD j false = true) → (∀ j, k ≤ j → j < ops.size → listed.getD j true = false) → Closed ops listed →
    WopsD P C wr ops.toList ser l k st Q → AnyA P C wr ops ser Q l.length listed st
  | [], k, listed, st, hl, hsz, hlo, hlo', hhi, hcl, h => by
    have hk : ops.size ≤ k := by
      have := hl 0
      simp at this
      exact this
    refine ⟨List.eq_nil_iff_forall_not_mem.2 fun i hi => ?_, h⟩
    obtain ⟨h1, oi, h2, _⟩ := mem_ready.1 hi
    have hi' : i < ops.size := (Array.getElem?_eq_some_iff.1 h2).1
    rw [hlo i (by omega)] at h1
    cases h1
  | o :: l, k, listed, st, hl, hsz, hlo, hlo', hhi, hcl, h => by
    obtain ⟨hord, hcomp⟩ := drawB_spec hB
    have h0 : ops[k]? = some o := by simpa using (hl 0).symm
    have hk : k < ops.size := (Array.getElem?_eq_some_iff.1 h0).1
    have hready : k ∈ Region.ready .any ops listed := mem_ready.2 ⟨hhi k (Nat.le_refl _) hk, o, h0, fun e he hb => hlo' _ (hord k o (by simpa using h0) e (by simpa using he) hb)⟩
    have hstep : ∃ v u, StepA P C wr ops.toList o st v u ∧ Chk C ser k o st u ∧ WopsD P C wr ops.toList ser l (k + 1) ((st.upd u).put o.dst v) Q := by
      simp only [WopsD] at h
      split at h
      · rename_i hs
        obtain ⟨v, u, h1, h2⟩ := Wop.step h
        refine ⟨v, u, h1, ⟨fun hf => (by rw [hs] at hf; cases hf), fun _ B hB => ?_, fun hf => (by rw [hs] at hf; cases hf)⟩, h2.2⟩
        have := sameAt_mem h2.1 B hB
        rw [St.lk_put] at this
        exact this.symm
      · rename_i hs
        obtain ⟨v, h1, h2⟩ := WopQ.step h.2
        exact ⟨v, [], h1, ⟨fun _ => rfl, fun hf => (by rw [hs] at hf; cases hf), fun _ => loadC_mem h.1⟩, h2⟩
    obtain ⟨v, u, h1, h2, h3⟩ := hstep
    have hbef : BefOK ops.toList (befAll ops.toList []) := (befAll_ok ops.toList (fun j oj hj e he hb => hord j oj hj e he hb) ops.toList [] (by simp) (fun j i hj => by simp at hj)).1
    refine anyA_first hQ hbef h0 (fun j oj hj hij => ?_) l.length listed st hcl hlo hready h1 h2 ?_
    · rcases hcomp k j o oj h0 hj hij with h4 | h4
      · refine .inl ⟨?_, h4⟩
        rw [befAll_len]
        have := (Array.getElem?_eq_some_iff.1 hj).1
        simp; omega
      · exact .inr h4
    · refine WopsD.any hQ hB l (k + 1) _ _ (fun j => by have := hl (j + 1); simpa [Nat.add_assoc, Nat.add_comm 1 j] using this) (by simp [hsz]) (fun j hj => ?_) (fun j hj => ?_) (fun j hj hj' => ?_) (hcl.set hready) h3
      · by_cases e : k = j
        · subst e; simp [hsz, hk]
        · rw [getD_set_ne true e]; exact hlo j (by omega)
      · by_cases e : k = j
        · subst e; simp [hsz, hk]
        · rw [getD_set_ne false e]; exact hlo' j (by omega)
      · rw [getD_set_ne true (by omega)]; exact hhi j (by omega) hj'

theorem wp_drawn {F : Fence} {n : Nat} (hF : Good F) {N : Nat} {L0 : Nat → Option Blk} {φ0 : Nat → Option Nat} {ok0 : Nat → Nat → Prop} {w0 : World} {st : St} {ok : Nat → Nat → Prop} {φ : Nat → Option Nat} {a : Act} {w : World} {id : Nat}
    {Q : St → Prop} {Q' : Exit → Act → World → Prop} (hm : P.follows .mixedOrders = true) (hC : TblOK P C) (hd : dstsOK N ops.toList = true) (hB : drawB P ops.toList ser = true) (hQ : ∀ s t, StEq s t → Q s → Q t)
    (h : WopsD P C wr ops.toList ser ops.toList 0 st Q) (hS : Sim N L0 φ0 ok0 w0 st ok φ a w)
    (hn : ∀ st' ok' φ' a' w', Q st' → Sim N L0 φ0 ok0 w0 st' ok' φ' a' w' → Q' .normal a' w') : (Code.region id ops true).wpIn F n P Q' a w := by
  refine wpIn_region_any hm ?_
  have hany := WopsD.any hQ hB ops.toList 0 (Array.replicate ops.size false) st (by simp) (by simp) (fun j hj => by omega) (fun j hj => by omega) (fun j _ hj => by simp [hj]) (fun j oj hj hl => by
    have hlt : j < ops.size := (Array.getElem?_eq_some_iff.1 hj).1
    simp [hlt] at hl) h
  have hS' : Sim N L0 φ0 ok0 w0 st ok φ a { w with drawn := w.drawn + 1 } := by
    have hx : Ext w0 (fun b => ∃ i, φ0 i = some b) st.lk ok φ w st.lk ok φ { w with drawn := w.drawn + 1 } :=
      Ext.quiet hS.heap ⟨rfl, rfl, rfl, Nat.le_refl _, fun _ _ _ => rfl⟩
    exact ⟨fun t => (hS.slots t).keep hx.keeps, hS.size, hS.defers, hx.heap, hS.kept.trans hx.keeps, hx.frame hS.own hS.frame, hS.own, hS.okDn⟩
  have := AnyA.wp hF (n := n) (N := N) hC hd ops.toList.length _ st ok φ a _ hany hS' hn
  simpa using this
end

/-! ### forgetting -/
mutual
def idsOK (L : Nat → Option Blk) : AV → Prop
  | .ref id _ _ _ => L id ≠ none
  | .ptr id _ _ _ => L id ≠ none
  | .it id => L id ≠ none
  | .yld id => L id ≠ none
  | .agg cs => idsOKL L cs
  | .tuple cs => idsOKL L cs
  | .clo _ _ cs => idsOKL L cs
  | .cond _ v => idsOK L v
  | _ => True
def idsOKL (L : Nat → Option Blk) : List AV → Prop
  | [] => True
  | a :: r => idsOK L a ∧ idsOKL L r
end
theorem idsOKL_get {L : Nat → Option Blk} : ∀ {l : List AV}, idsOKL L l → ∀ (i : Nat) (a : AV), l[i]? = some a → idsOK L a
  | [], _, i, a, h => by simp at h
  | b :: r, hl, i, a, h => by
    cases i with
    | zero => simp at h; subst h; exact hl.1
    | succ i => exact idsOKL_get hl.2 i a (by simpa using h)

def idsOKS (L : Nat → Option Blk) : List (Nat × AV) → Prop
  | [] => True
  | (_, a) :: r => idsOK L a ∧ idsOKS L r
theorem idsOKS_lk {L : Nat → Option Blk} (t : Nat) : ∀ {l : List (Nat × AV)}, idsOKS L l → idsOK L (lkA l t)
  | [], _ => trivial
  | (k, a) :: r, h => by
    simp only [lkA]
    split
    · exact h.1
    · exact idsOKS_lk t h.2
/-- The elements' blocks live on. -/
def contOK (L : Nat → Option Blk) (c : List AV) : Prop := pureEl c = true ∨ idsOKL L (c.flatMap AV.cells)

/-- What a block's contents hang on lives on. -/
def blkOK (L : Nat → Option Blk) : Blk → Prop
  | .cells _ _ _ c => contOK L c
  | .loop _ _ _ sl => idsOKS L sl
  | _ => True

/-- A slot may be told in other words. -/
def slotOK (L L' : Nat → Option Blk) (v v' : AV) : Prop :=
  (v = v' ∧ idsOK L' v') ∨
  (∃ id sz d, (v = .nils ∨ v = .nil0) ∧ v' = .ref id 0 0 0 ∧ L id = none ∧ L' id = some (.cells sz false d [])) ∨
  (∃ id off len hw sz ro d c, v = .ref id off len hw ∧ L id = some (.cells sz ro d c) ∧ L' id = none ∧ hw = c.length ∧ pureEl c = true ∧ v' = .list sz ((c.drop off).take len)) ∨
  (∃ sz, (v = .nils ∨ v = .nil0) ∧ v' = .list sz [])

def subT (st : St) (L' : Nat → Option Blk) : List (Nat × AV) → Prop
  | [] => True
  | (t, v') :: r => slotOK st.lk L' (st.get t) v' ∧ subT st L' r

/-- A block's contents may be told in other words. -/
def contS (L L' : Nat → Option Blk) (c c' : List AV) : Prop :=
  c'.length = c.length ∧ ∀ (i : Nat) (x x' : AV), c[i]? = some x → c'[i]? = some x' → x'.cells.length = x.cells.length ∧ ∀ (j : Nat) (y y' : AV), x.cells[j]? = some y → x'.cells[j]? = some y' → slotOK L L' y y'
def blkS (L L' : Nat → Option Blk) (id : Nat) (b : Blk) : Prop := ∃ sz ro d c c', L id = some (.cells sz ro d c) ∧ b = .cells sz ro d c' ∧ contS L L' c c'
def subB (L L' : Nat → Option Blk) : List (Nat × Blk) → Prop
  | [] => True
  | (id, b) :: r => ((L id = some b ∧ blkOK L' b) ∨ (L id = none ∧ ∃ sz d, b = .cells sz false d []) ∨ blkS L L' id b) ∧ subB L L' r

def extsOK (L L' : Nat → Option Blk) : Nat → Prop
  | 0 => L defId = none ∨ L' defId = some .defer
  | m + 1 => L' m = L m ∧ extsOK L L' m

theorem extsOK_def {L L' : Nat → Option Blk} : ∀ {m : Nat}, extsOK L L' m → L defId = none ∨ L' defId = some .defer
  | 0, h => h
  | m + 1, h => extsOK_def h.2
/-- The state st may be forgotten down to st'. -/
structure Weak0 (m : Nat) (st st' : St) : Prop where
  slots : subT st st'.lk st'.tmps
  blks : subB st.lk st'.lk st'.L
  exts : extsOK st.lk st'.lk m

theorem subT_get {st : St} {L' : Nat → Option Blk} : ∀ {l : List (Nat × AV)}, subT st L' l → ∀ t, lkA l t = .any ∨ slotOK st.lk L' (st.get t) (lkA l t)
  | [], _, t => .inl rfl
  | (k, v) :: r, h, t => by
    simp only [lkA]
    split
    · rename_i e; subst e; exact .inr h.1
    · exact subT_get h.2 t
theorem subB_get {L L' : Nat → Option Blk} : ∀ {l : List (Nat × Blk)}, subB L L' l → ∀ id b, lkB l id = some b → (L id = some b ∧ blkOK L' b) ∨ (L id = none ∧ ∃ sz d, b = .cells sz false d []) ∨ blkS L L' id b
  | [], _, id, b, h => by simp [lkB] at h
  | (k, v) :: r, h, id, b, hb => by
    simp only [lkB] at hb
    split at hb
    · rename_i e; subst e; cases hb; exact h.1
    · exact subB_get h.2 id b hb
theorem extsOK_get {L L' : Nat → Option Blk} : ∀ {m : Nat}, extsOK L L' m → ∀ i, i < m → L' i = L i
  | m + 1, h, i, hi => by
    by_cases e : i = m
    · subst e; exact h.1
    · exact extsOK_get h.2 i (by omega)

theorem Sim.weak0 {N : Nat} {L0 : Nat → Option Blk} {φ0 : Nat → Option Nat} {ok0 : Nat → Nat → Prop} {w0 : World} {st st' : St} {ok : Nat → Nat → Prop} {φ : Nat → Option Nat} {a : Act} {w : World} {m : Nat}
    (hS : Sim N L0 φ0 ok0 w0 st ok φ a w) (hm : ∀ i, L0 i ≠ none → i < m) (h : Weak0 m st st') : ∃ ok' φ', Sim N L0 φ0 ok0 w0 st' ok' φ' a w := by
  let okv : Nat → Nat → Prop := fun b o => ok b o ∨ ∃ id, st'.lk id = none ∧ Seen st.lk φ [id] b o
  let φv : Nat → Option Nat := fun id => match st'.lk id with | none => none | some _ => φ id
  have hblk := fun id b hb => subB_get h.blks id b hb
  have hφ : ∀ id b, st'.lk id = some b → φv id = φ id := fun id b hb => by simp only [φv, hb]
  have kR : ∀ a v, R w ok st.lk φ a v → idsOK st'.lk a → R w okv st'.lk φv a v := by
    intro a v hr
    induction hr with
    | pure a v h => intro _; exact .pure _ _ (h.mono (fun _ _ h => .inl h) (fun _ _ _ => rfl))
    | ref id off len hw va vn vc sz ro d c hL hle h =>
      intro hi
      simp only [idsOK] at hi
      cases hb : st'.lk id with
      | none => exact absurd hb hi
      | some b =>
        rcases hblk id b hb with ⟨h1, _⟩ | ⟨h1, _⟩ | ⟨sz1, ro1, d1, c1, c1', h1, rfl, h2⟩
        · rw [hL] at h1; cases h1
          exact .ref id off len hw va vn vc sz ro d c hb hle (fun e => by
            obtain ⟨g1, g2⟩ := h e
            refine ⟨g1, ?_⟩
            rw [hφ id _ hb]; exact g2)
        · rw [hL] at h1; cases h1
        · rw [hL] at h1; cases h1
          exact .ref id off len hw va vn vc sz ro d c1' hb (by rw [h2.1]; exact hle) (fun e => by
            obtain ⟨g1, g2⟩ := h (by rw [e, h2.1])
            refine ⟨g1, ?_⟩
            rw [hφ id _ hb]; exact g2)
    | ptr id i j hw pa sz ro d c hL hle h =>
      intro hi
      simp only [idsOK] at hi
      cases hb : st'.lk id with
      | none => exact absurd hb hi
      | some b =>
        rcases hblk id b hb with ⟨h1, _⟩ | ⟨h1, _⟩ | ⟨sz1, ro1, d1, c1, c1', h1, rfl, h2⟩
        · rw [hL] at h1; cases h1
          exact .ptr id i j hw pa sz ro d c hb hle (fun e => by rw [hφ id _ hb]; exact h e)
        · rw [hL] at h1; cases h1
        · rw [hL] at h1; cases h1
          exact .ptr id i j hw pa sz ro d c1' hb (by rw [h2.1]; exact hle) (fun e => by rw [hφ id _ hb]; exact h (by rw [e, h2.1]))
    | yld id lc stt pd sl b hL hφi =>
      intro hi
      simp only [idsOK] at hi
      cases hb : st'.lk id with
      | none => exact absurd hb hi
      | some bb =>
        rcases hblk id bb hb with ⟨h1, _⟩ | ⟨h1, _⟩ | ⟨sz1, ro1, d1, c1, c1', h1, _⟩
        · rw [hL] at h1; cases h1
          exact .yld id lc stt pd sl b hb (by rw [hφ id _ hb]; exact hφi)
        · rw [hL] at h1; cases h1
        · rw [hL] at h1; cases h1
    | it id s pos b hL hφi =>
      intro hi
      simp only [idsOK] at hi
      cases hb : st'.lk id with
      | none => exact absurd hb hi
      | some bb =>
        rcases hblk id bb hb with ⟨h1, _⟩ | ⟨h1, _⟩ | ⟨sz1, ro1, d1, c1, c1', h1, _⟩
        · rw [hL] at h1; cases h1
          exact .it id s pos b hb (by rw [hφ id _ hb]; exact hφi)
        · rw [hL] at h1; cases h1
        · rw [hL] at h1; cases h1
    | agg cs vs hl h1 h ih => intro hi; exact .agg cs vs hl h1 (fun i a v ha hv => ih i a v ha hv (idsOKL_get hi i a ha))
    | tuple cs vs hl h ih => intro hi; exact .tuple cs vs hl (fun i a v ha hv => ih i a v ha hv (idsOKL_get hi i a ha))
    | clo f k cs vs hl h ih => intro hi; exact .clo f k cs vs hl (fun i a v ha hv => ih i a v ha hv (idsOKL_get hi i a ha))
    | condT a v h ih => intro hi; exact .condT a v (ih hi)
  have kE : ∀ sz c vs, RE w ok st.lk φ sz c vs → contOK st'.lk c → RE w okv st'.lk φv sz c vs := by
    intro sz c vs hre hc
    refine ⟨hre.1, hre.2.1, fun i x j y hx hy => ?_⟩
    obtain ⟨v, h1, h2, h3⟩ := hre.2.2 i x j y hx hy
    refine ⟨v, h1, h2, ?_⟩
    rcases hc with hc | hc
    · exact .pure _ _ ((h3.toRp (pureBL_iff.1 (pureEl_iff.1 hc i x hx) j y hy)).mono (fun _ _ h => .inl h) (fun _ _ _ => rfl))
    · refine kR _ _ h3 ?_
      have hmem : y ∈ c.flatMap AV.cells := List.mem_flatMap.2 ⟨x, List.mem_of_getElem? hx, List.mem_of_getElem? hy⟩
      obtain ⟨k, hk, rfl⟩ := List.mem_iff_getElem.1 hmem
      exact idsOKL_get hc k _ (List.getElem?_eq_getElem hk)
  have kS : ∀ v v' u, R w ok st.lk φ v u → slotOK st.lk st'.lk v v' → R w okv st'.lk φv v' u := by
    intro v v' u hs h1
    rcases h1 with ⟨h1, h2⟩ | ⟨id, sz, d, h1, h2, h3, h4⟩ | ⟨id, off, len, hw, sz, ro, d, c, h1, h2, h3, h4, h5, h6⟩ | ⟨sz, h1, h2⟩
    · rw [← h1] at h2 ⊢; exact kR _ _ hs h2
    · have : ∃ a0, u = .slice a0 0 0 := by
        rcases h1 with h1 | h1 <;> rw [h1] at hs <;> cases hs with | pure _ _ h => cases h; exact ⟨_, rfl⟩
      obtain ⟨a0, this⟩ := this
      rw [h2, this]
      exact .ref id 0 0 0 a0 0 0 sz false d [] h4 (Nat.le_refl _) (fun _ => ⟨Nat.le_refl _, .inl ⟨rfl, _, rfl⟩⟩)
    · rw [h1] at hs
      rw [h6]
      exact .pure _ _ (purA_ok hS.heap (L := st.lk) (a := .ref id off len hw) (ids := [id]) (q := hw = c.length ∧ pureEl c = true) (by simp only [purA, h2]) ⟨h4, h5⟩ hs (fun _ _ h => .inl h) (fun b o hb => .inr ⟨id, h3, hb⟩))
    · have : ∃ a0, u = .slice a0 0 0 := by
        rcases h1 with h1 | h1 <;> rw [h1] at hs <;> cases hs with | pure _ _ h => cases h; exact ⟨_, rfl⟩
      obtain ⟨a0, this⟩ := this
      rw [h2, this]
      exact .pure _ _ (.list0 sz a0 0 (Nat.zero_le _))
  have kC : ∀ sz c c' vs, RE w ok st.lk φ sz c vs → contS st.lk st'.lk c c' → RE w okv st'.lk φv sz c' vs := by
    intro sz c c' vs hre hc
    have each : ∀ (i : Nat) (x' : AV), c'[i]? = some x' → ∃ x, c[i]? = some x := fun i x' hx => by
      have hi := (List.getElem?_eq_some_iff.1 hx).1
      exact ⟨_, List.getElem?_eq_getElem (by rw [← hc.1]; exact hi)⟩
    refine ⟨by rw [hc.1]; exact hre.1, fun i x' hx' => ?_, fun i x' j y' hx' hy' => ?_⟩
    · obtain ⟨x, hx⟩ := each i x' hx'
      rw [(hc.2 i x x' hx hx').1]; exact hre.2.1 i x hx
    · obtain ⟨x, hx⟩ := each i x' hx'
      obtain ⟨h1, h2⟩ := hc.2 i x x' hx hx'
      have hj := (List.getElem?_eq_some_iff.1 hy').1
      have hy : x.cells[j]? = some x.cells[j] := List.getElem?_eq_getElem (by rw [← h1]; exact hj)
      obtain ⟨v, g1, g2, g3⟩ := hre.2.2 i x j _ hx hy
      exact ⟨v, g1, g2, kS _ _ _ g3 (h2 j _ _ hy hy')⟩
  refine ⟨okv, φv, ?_, hS.size, ?_, ⟨?_, ?_, ?_, ?_, ?_⟩, ?_, hS.frame, ?_, ?_⟩
  · intro t
    rcases subT_get h.slots t with h1 | h1
    · show R w okv st'.lk φv (lkA st'.tmps t) _
      rw [h1]; exact .pure _ _ (.any _)
    · show R w okv st'.lk φv (lkA st'.tmps t) _
      exact kS _ _ _ (hS.slots t) h1
  · rcases hS.defers with h1 | ⟨b, h1, h2, h3⟩
    · exact .inl h1
    · rcases extsOK_def h.exts with h4 | h4
      · rw [h1] at h4; cases h4
      · exact .inr ⟨b, h4, by rw [hφ _ _ h4]; exact h2, h3⟩
  · intro id sz ro d c hL
    rw [hφ id _ hL]
    rcases hblk id _ hL with ⟨h1, h2⟩ | ⟨h1, sz', d', h2⟩ | ⟨sz1, ro1, d1, c1, c1', h1, h2, h3⟩
    · rcases hS.heap.blk id sz ro d c h1 with h3 | ⟨b, vs, rest, e, lo, hi, g1, g2, g3, g4⟩
      · exact .inl h3
      · exact .inr ⟨b, vs, rest, e, lo, hi, g1, g2, g3, kE _ _ _ g4 h2⟩
    · cases h2
      exact .inl ⟨hS.heap.dom id h1, rfl⟩
    · cases h2
      rcases hS.heap.blk id _ _ _ _ h1 with ⟨h4, h5⟩ | ⟨b, vs, rest, e, lo, hi, g1, g2, g3, g4⟩
      · exact .inl ⟨h4, List.length_eq_zero_iff.1 (by rw [h3.1, h5]; rfl)⟩
      · exact .inr ⟨b, vs, rest, e, lo, hi, g1, g2, g3, kC _ _ _ _ g4 h3⟩
  · intro id bb hL hcc
    rw [hφ id _ hL]
    rcases hblk id _ hL with ⟨h1, h2⟩ | ⟨_, sz', d', h2⟩ | ⟨sz1, ro1, d1, c1, c1', _, h2, _⟩
    · obtain ⟨b, o, g1, g2, g3⟩ := hS.heap.obj id bb h1 hcc
      refine ⟨b, o, g1, g2, ?_⟩
      cases g3 with
      | iter s pos => exact .iter s pos
      | defer => exact .defer
      | loop lc stt pd sl r g => exact .loop lc stt pd sl r ⟨g.state, g.pending, g.params, g.assign, g.body, g.size, fun t => kR _ _ (g.slots t) (idsOKS_lk t h2)⟩
    · subst h2; simp [Blk.isC] at hcc
    · subst h2; simp [Blk.isC] at hcc
  · intro id hL
    simp only [φv, hL]
  · intro i j b hi hj
    simp only [φv] at hi hj
    split at hi
    · cases hi
    · split at hj
      · cases hj
      · exact hS.heap.inj i j b hi hj
  · intro b o hb
    rcases hb with hb | ⟨id, hid, id', hid', h1, h2⟩
    · obtain ⟨h1, h2⟩ := hS.heap.shut b o hb
      refine ⟨h1, fun i hi => ?_⟩
      simp only [φv] at hi
      split at hi
      · cases hi
      · rename_i bb hbb
        obtain ⟨sz, d, c, h3, h4⟩ := h2 i hi
        rcases hblk i _ hbb with ⟨h5, _⟩ | ⟨h5, _⟩ | ⟨sz1, ro1, d1, c1, c1', h5, rfl, h6⟩
        · rw [h3] at h5; cases h5
          exact ⟨sz, d, c, hbb, h4⟩
        · rw [h3] at h5; cases h5
        · rw [h3] at h5; cases h5
          exact ⟨sz, d, c1', hbb, by rw [h6.1]; exact h4⟩
    · simp only [List.mem_singleton] at hid'
      subst hid'
      refine ⟨hS.heap.lt h1, fun i hi => ?_⟩
      simp only [φv] at hi
      split at hi
      · cases hi
      · rename_i bb hbb
        have := hS.heap.inj _ _ b hi h1
        subst this
        rw [hid] at hbb; cases hbb
  · -- what stood when the call began
    refine ⟨fun b o hb => .inl (hS.kept.okUp b o hb), fun b o hb => hS.kept.cell b o hb, fun id sz ro d c hL => ?_, fun id bb hL hcc => ?_⟩
    · obtain ⟨ro', d', c', h1, h2, h3⟩ := hS.kept.cells id sz ro d c hL
      have e := extsOK_get h.exts id (hm id (by rw [hL]; simp))
      have h4 : st'.lk id = some (.cells sz ro' d' c') := by rw [e]; exact h1
      exact ⟨ro', d', c', h4, h2, fun e2 => by rw [hφ id _ h4]; exact h3 e2⟩
    · obtain ⟨b', h1, h2, h3⟩ := hS.kept.obj id bb hL hcc
      have e := extsOK_get h.exts id (hm id (by rw [hL]; simp))
      have h4 : st'.lk id = some b' := by rw [e]; exact h1
      exact ⟨b', h4, h2, by rw [hφ id _ h4]; exact h3⟩
  · intro id b hb
    simp only [φv] at hb
    split at hb
    · cases hb
    · exact hS.own id b hb
  · intro b o hb
    rcases hb with hb | ⟨id, hid, id', hid', h1, h2⟩
    · exact hS.okDn b o hb
    · rcases hS.own _ _ h1 with h3 | h3
      · exact .inr (.inr h3)
      · exact .inr (.inl h3)

/-! ### the block for the rounds' deferred calls is given up -/

/-! ### two blocks change their names -/
def swapN (a b i : Nat) : Nat := if i = a then b else if i = b then a else i
theorem swapN_swapN (a b i : Nat) : swapN a b (swapN a b i) = i := by
  unfold swapN
  repeat' split
  all_goals omega
def swapB (a b : Nat) : List (Nat × Blk) → List (Nat × Blk)
  | [] => []
  | (k, v) :: r => (swapN a b k, renB (swapN a b) v) :: swapB a b r
theorem lkB_swap (a b i : Nat) : ∀ l : List (Nat × Blk), lkB (swapB a b l) (swapN a b i) = (lkB l i).map (renB (swapN a b))
  | [] => rfl
  | (k, v) :: r => by
    simp only [swapB, lkB]
    by_cases h : k = i
    · subst h; simp
    · rw [if_neg h, if_neg (fun e => h (by rw [← swapN_swapN a b k, e, swapN_swapN])), lkB_swap a b i r]
def St.swap (s : St) (a b : Nat) : St := ⟨renS (swapN a b) s.tmps, swapB a b s.L⟩
theorem swap_lk (s : St) (a b i : Nat) : (s.swap a b).lk i = (s.lk (swapN a b i)).map (renB (swapN a b)) := by
  have := lkB_swap a b (swapN a b i) s.L
  rw [swapN_swapN] at this
  exact this
theorem swap_get (s : St) (a b t : Nat) : (s.swap a b).get t = ren (swapN a b) (s.get t) := lkA_renS _ _ _
theorem same_renB {σ : Nat → Nat} {b b' : Blk} (h : b.same b') : b.same (renB σ b') := by
  cases b <;> cases b' <;> simp_all [Blk.same, renB]
theorem Sim.swap {N : Nat} {L0 : Nat → Option Blk} {φ0 : Nat → Option Nat} {ok0 : Nat → Nat → Prop} {w0 : World} {st : St} {ok : Nat → Nat → Prop} {φ : Nat → Option Nat} {c : Act} {w : World} {a b : Nat}
    (hS : Sim N L0 φ0 ok0 w0 st ok φ c w) (ha : L0 a = none) (hb : L0 b = none) (h1 : a ≠ defId) (h2 : b ≠ defId) : Sim N L0 φ0 ok0 w0 (st.swap a b) ok (fun i => φ (swapN a b i)) c w := by
  have hL : ∀ i x, st.lk i = some x → (st.swap a b).lk (swapN a b i) = some (renB (swapN a b) x) := fun i x h => by rw [swap_lk, swapN_swapN, h]; rfl
  have hφ : ∀ i x, st.lk i = some x → φ (swapN a b (swapN a b i)) = φ i := fun i x _ => by rw [swapN_swapN]
  have kR : ∀ v x, R w ok st.lk φ v x → R w ok (st.swap a b).lk (fun i => φ (swapN a b i)) (Abs.ren (swapN a b) v) x := fun v x h =>
    R.ren (swapN a b) hL hφ (fun _ _ h => h) (fun _ _ _ => rfl) (fun _ _ _ _ _ _ h => h) h
  have hfix : ∀ i, i ≠ a → i ≠ b → swapN a b i = i := fun i g1 g2 => by rw [swapN, if_neg g1, if_neg g2]
  refine ⟨fun t => by rw [swap_get]; exact kR _ _ (hS.slots t), hS.size, ?_, ⟨?_, ?_, ?_, ?_, ?_⟩, ⟨hS.kept.okUp, hS.kept.cell, ?_, ?_⟩, hS.frame, fun id x hx => hS.own _ x hx, hS.okDn⟩
  · rcases hS.defers with h | ⟨x, g1, g2, g3⟩
    · exact .inl h
    · have e := hfix defId (Ne.symm h1) (Ne.symm h2)
      refine .inr ⟨x, ?_, by show φ (swapN a b defId) = some x; rw [e]; exact g2, g3⟩
      rw [swap_lk, e, g1]; rfl
  · intro id sz ro d cc h
    rw [swap_lk] at h
    cases hk : st.lk (swapN a b id) with
    | none => rw [hk] at h; cases h
    | some x =>
      rw [hk] at h
      cases x <;> simp only [Option.map_some, renB, Option.some.injEq, Blk.cells.injEq, reduceCtorEq] at h
      obtain ⟨rfl, rfl, rfl, rfl⟩ := h
      rcases hS.heap.blk _ _ _ _ _ hk with ⟨g1, g2⟩ | ⟨k, vs, rest, e, lo, hi, g1, g2, g3, g4⟩
      · exact .inl ⟨g1, by rw [g2]; rfl⟩
      · exact .inr ⟨k, vs, rest, e, lo, hi, g1, g2, g3, RE.ren _ kR g4⟩
  · intro id x h hc
    rw [swap_lk] at h
    cases hk : st.lk (swapN a b id) with
    | none => rw [hk] at h; cases h
    | some y =>
      rw [hk] at h
      cases h
      rw [renB_isC] at hc
      obtain ⟨k, o, g1, g2, g3⟩ := hS.heap.obj _ y hk hc
      exact ⟨k, o, g1, g2, ObjR.ren _ kR g3⟩
  · intro id h
    rw [swap_lk] at h
    exact hS.heap.dom _ (by cases hk : st.lk (swapN a b id) with | none => rfl | some y => rw [hk] at h; cases h)
  · intro i j x hi hj
    have := hS.heap.inj _ _ x hi hj
    rw [← swapN_swapN a b i, this, swapN_swapN]
  · intro x o hx
    obtain ⟨g1, g2⟩ := hS.heap.shut x o hx
    refine ⟨g1, fun id hid => ?_⟩
    obtain ⟨sz, d, cc, g3, g4⟩ := g2 _ hid
    refine ⟨sz, Abs.ren (swapN a b) d, cc.map (Abs.ren (swapN a b)), ?_, by rw [List.length_map]; exact g4⟩
    rw [swap_lk, g3]; rfl
  · intro id sz ro d cc h
    have e := hfix id (fun e => by rw [e, ha] at h; cases h) (fun e => by rw [e, hb] at h; cases h)
    obtain ⟨ro', d', c', g1, g2, g3⟩ := hS.kept.cells id sz ro d cc h
    refine ⟨ro', Abs.ren (swapN a b) d', c'.map (Abs.ren (swapN a b)), ?_, by rw [List.length_map]; exact g2, ?_⟩
    · rw [swap_lk, e, g1]; rfl
    · rw [List.length_map]; show _ → φ (swapN a b id) = φ0 id ∧ ∀ x n, φ0 id = some x → _; rw [e]; exact g3
  · intro id x h hc
    have e := hfix id (fun e => by rw [e, ha] at h; cases h) (fun e => by rw [e, hb] at h; cases h)
    obtain ⟨b', g1, g2, g3⟩ := hS.kept.obj id x h hc
    refine ⟨renB (swapN a b) b', ?_, same_renB g2, by show φ (swapN a b id) = φ0 id; rw [e]; exact g3⟩
    rw [swap_lk, e, g1]; rfl

/-- A state tells less than another one, maybe under other names. -/
inductive Weak (m : Nat) : St → St → Prop
  | base {s t : St} (h : Weak0 m s t) : Weak m s t
  | swap {s t : St} (a b : Nat) (ha : m ≤ a) (hb : m ≤ b) (h1 : a ≠ defId) (h2 : b ≠ defId) (h : Weak m (s.swap a b) t) : Weak m s t
theorem Sim.weak {N : Nat} {L0 : Nat → Option Blk} {φ0 : Nat → Option Nat} {ok0 : Nat → Nat → Prop} {w0 : World} {st st' : St} {ok : Nat → Nat → Prop} {φ : Nat → Option Nat} {a : Act} {w : World} {m : Nat}
    (hS : Sim N L0 φ0 ok0 w0 st ok φ a w) (hm : ∀ i, L0 i ≠ none → i < m) (h : Weak m st st') : ∃ ok' φ', Sim N L0 φ0 ok0 w0 st' ok' φ' a w := by
  induction h generalizing φ with
  | base h => exact hS.weak0 hm h
  | swap x y hx hy h1 h2 _ ih =>
    have hn : ∀ i, m ≤ i → L0 i = none := fun i hi => by
      cases e : L0 i with
      | none => rfl
      | some b => have := hm i (by rw [e]; simp); omega
    exact ih (hS.swap (hn x hx) (hn y hy) h1 h2)

def delL : List (Nat × Blk) → List (Nat × Blk)
  | [] => []
  | (k, b) :: r => if k = defId then delL r else (k, b) :: delL r
def St.del (s : St) : St := ⟨s.tmps, delL s.L⟩
def dropF {α : Type} (f : Nat → Option α) : Nat → Option α := fun i => if i = defId then none else f i
theorem lkB_delL : ∀ (l : List (Nat × Blk)) (i : Nat), lkB (delL l) i = if i = defId then none else lkB l i
  | [], i => by simp [delL, lkB]
  | (k, b) :: r, i => by
    have ih := lkB_delL r i
    simp only [delL]
    by_cases e : k = defId
    · subst e
      rw [if_pos rfl, ih]
      by_cases e2 : i = defId
      · simp [e2]
      · rw [if_neg e2, if_neg e2, lkB, if_neg (Ne.symm e2)]
    · rw [if_neg e, lkB, ih, lkB]
      by_cases e2 : k = i
      · subst e2; simp [e]
      · simp [e2]
theorem del_lk (s : St) : s.del.lk = dropF s.lk := by
  funext i; simp only [St.lk, St.del, lkB_delL, dropF]
theorem R.drop {w w' : World} {ok : Nat → Nat → Prop} {L : Nat → Option Blk} {φ : Nat → Option Nat} {a : AV} {v : Value} (hd : ∀ b, L defId = some b → b = .defer)
    (hc : ∀ b o, ok b o → w'.cell? ⟨b, o, none⟩ = w.cell? ⟨b, o, none⟩) (hcap : ∀ id b n, id ≠ defId → φ id = some b → CapOK w b n → CapOK w' b n) (h : R w ok L φ a v) :
    R w' ok (dropF L) (dropF φ) a v := by
  have ne : ∀ {id blk}, L id = some blk → blk ≠ .defer → id ≠ defId := fun h1 h2 e => by subst e; exact h2 (hd _ h1)
  induction h with
  | pure a v h => exact .pure _ _ (h.mono (fun _ _ h => h) hc)
  | ref id off len hw va vn vc sz ro d c hL hle h =>
    have e := ne hL (by simp)
    refine .ref id off len hw va vn vc sz ro d c (by simp [dropF, e, hL]) hle (fun e1 => ?_)
    obtain ⟨g1, g2⟩ := h e1
    refine ⟨g1, ?_⟩
    rcases g2 with g2 | ⟨b, cap, pa, g2, g3, g4, g5, g6⟩
    · exact .inl g2
    · refine .inr ⟨b, cap, pa, by simp [dropF, e, g2], g3, g4, g5, ?_⟩
      rcases g6 with g6 | ⟨g6, g7⟩
      · exact .inl g6
      · exact .inr ⟨g6, hcap id b _ e g2 g7⟩
  | ptr id i j hw pa sz ro d c hL hle h =>
    have e := ne hL (by simp)
    refine .ptr id i j hw pa sz ro d c (by simp [dropF, e, hL]) hle (fun e1 => ?_)
    obtain ⟨b, g1, g2⟩ := h e1
    exact ⟨b, by simp [dropF, e, g1], g2⟩
  | it id s pos b hL hφ =>
    have e := ne hL (by simp)
    exact .it id s pos b (by simp [dropF, e, hL]) (by simp [dropF, e, hφ])
  | yld id lc st pd sl b hL hφ =>
    have e := ne hL (by simp)
    exact .yld id lc st pd sl b (by simp [dropF, e, hL]) (by simp [dropF, e, hφ])
  | agg cs vs hl h1 h ih => exact .agg cs vs hl h1 ih
  | tuple cs vs hl h ih => exact .tuple cs vs hl ih
  | clo f k cs vs hl h ih => exact .clo f k cs vs hl ih
  | condT a v h ih => exact .condT a v ih

theorem Sim.drop {N : Nat} {L0 : Nat → Option Blk} {φ0 : Nat → Option Nat} {ok0 : Nat → Nat → Prop} {w0 : World} {st : St} {ok : Nat → Nat → Prop} {φ : Nat → Option Nat} {a : Act} {w w' : World}
    (hS : Sim N L0 φ0 ok0 w0 st ok φ a w) (h0 : L0 defId = none) (hd : ∀ b, st.lk defId = some b → b = .defer) (hos : w'.os = w.os) (htape : w'.tape = w.tape) (hout : w'.output = w.output) (hsize : w'.heap.size = w.heap.size)
    (hblk : ∀ k, φ defId ≠ some k → w'.heap[k]? = w.heap[k]?) : Sim N L0 φ0 ok0 w0 st.del ok (dropF φ) { a with defers := [] } w' := by
  have hnok : ∀ b o, ok b o → φ defId ≠ some b := fun b o hb e => by
    obtain ⟨sz, d, c, h1, _⟩ := (hS.heap.shut b o hb).2 _ e
    have := hd _ h1
    cases this
  have hc : ∀ b o, ok b o → w'.cell? ⟨b, o, none⟩ = w.cell? ⟨b, o, none⟩ := fun b o hb => World.cell?_of_block (a := ⟨b, o, none⟩) (hblk b (hnok b o hb))
  have hoth : ∀ id b, id ≠ defId → φ id = some b → w'.heap[b]? = w.heap[b]? := fun id b hne hb => hblk b (fun e => hne (hS.heap.inj _ _ b hb e))
  have hcap : ∀ id b n, id ≠ defId → φ id = some b → CapOK w b n → CapOK w' b n := fun id b n hne hb hk => capOK_of_heap (hoth id b hne hb) hk
  have kR : ∀ a v, R w ok st.lk φ a v → R w' ok (dropF st.lk) (dropF φ) a v := fun a v hr => hr.drop hd hc hcap
  have ne : ∀ {id blk}, dropF st.lk id = some blk → id ≠ defId ∧ st.lk id = some blk := fun {id blk} h1 => by
    simp only [dropF] at h1
    split at h1
    · cases h1
    · rename_i e; exact ⟨e, h1⟩
  have neφ : ∀ {id b}, dropF φ id = some b → id ≠ defId ∧ φ id = some b := fun {id blk} h1 => by
    simp only [dropF] at h1
    split at h1
    · cases h1
    · rename_i e; exact ⟨e, h1⟩
  refine ⟨fun t => by rw [del_lk]; exact kR _ _ (hS.slots t), hS.size, .inl rfl, ?_, ?_, ?_, fun id b hb => hS.own id b (neφ hb).2, hS.okDn⟩
  · rw [del_lk]
    refine ⟨fun id sz ro d c hL => ?_, fun id bb hL hcc => ?_, fun id hL => ?_, fun i j b hi hj => hS.heap.inj i j b (neφ hi).2 (neφ hj).2, fun b o hb => ?_⟩
    · obtain ⟨e, hL⟩ := ne hL
      rcases hS.heap.blk id sz ro d c hL with ⟨h1, h2⟩ | ⟨b, vs, rest, ee, lo, hi, h1, h2, h3, h4⟩
      · exact .inl ⟨by simp [dropF, e, h1], h2⟩
      · exact .inr ⟨b, vs, rest, ee, lo, hi, by simp [dropF, e, h1], by rw [hoth id b e h1]; exact h2, h3, h4.keep kR⟩
    · obtain ⟨e, hL⟩ := ne hL
      obtain ⟨b, o, h1, h2, h3⟩ := hS.heap.obj id bb hL hcc
      exact ⟨b, o, by simp [dropF, e, h1], by rw [hoth id b e h1]; exact h2, h3.keep kR⟩
    · simp only [dropF] at hL ⊢
      split
      · rfl
      · rename_i e
        rw [if_neg e] at hL
        exact hS.heap.dom id hL
    · obtain ⟨h1, h2⟩ := hS.heap.shut b o hb
      refine ⟨by rw [hsize]; exact h1, fun id hid => ?_⟩
      obtain ⟨e, hid⟩ := neφ hid
      obtain ⟨sz, d, c, h3, h4⟩ := h2 id hid
      exact ⟨sz, d, c, by simp [dropF, e, h3], h4⟩
  · rw [del_lk]
    have hne0 : ∀ id blk, L0 id = some blk → id ≠ defId := fun id blk h e => by subst e; rw [h0] at h; cases h
    refine ⟨hS.kept.okUp, fun b o hb => (hc b o (hS.kept.okUp b o hb)).trans (hS.kept.cell b o hb), fun id sz ro d c hL => ?_, fun id bb hL hcc => ?_⟩
    · have e := hne0 _ _ hL
      obtain ⟨ro', d', c', h1, h2, h3⟩ := hS.kept.cells id sz ro d c hL
      refine ⟨ro', d', c', by simp [dropF, e, h1], h2, fun e2 => ?_⟩
      obtain ⟨h4, h5⟩ := h3 e2
      exact ⟨by simp [dropF, e, h4], fun b n hb hk => hcap id b n e (h4.trans hb) (h5 b n hb hk)⟩
    · have e := hne0 _ _ hL
      obtain ⟨b', h1, h2, h3⟩ := hS.kept.obj id bb hL hcc
      exact ⟨b', by simp [dropF, e, h1], h2, by simp [dropF, e, h3]⟩
  · refine ⟨hos.trans hS.frame.os, htape.trans hS.frame.tape, hout.trans hS.frame.output, by rw [hsize]; exact hS.frame.size, fun k hk hx => ?_⟩
    rw [hblk k (fun e => ?_)]
    · exact hS.frame.block k hk hx
    · rcases hS.own _ _ e with h1 | h1
      · exact hx h1
      · omega
end Go.Abs
set_option linter.unusedVariables false
set_option linter.unusedSimpArgs false
namespace Go.Abs

/-- A slot may be told in other words: a form that computes. -/
def slotE (L L' : Nat → Option Blk) (v v' : AV) : Prop :=
  match v' with
  | .int k' n' => match v with | .int k n => k = k' ∧ n = n' | _ => False
  | .bool b' => match v with | .bool b => b = b' | _ => False
  | .str s' => match v with | .str s => s = s' | _ => False
  | .list sz' l' => match v with
    | .list sz l => sz = sz' ∧ l = l'
    | .nils => l' = []
    | .nil0 => l' = []
    | .ref id off len hw => match L id, L' id with
      | some (.cells sz _ _ c), none => sz = sz' ∧ (c.drop off).take len = l' ∧ hw = c.length ∧ pureEl c = true
      | _, _ => False
    | _ => False
  | .ref id' off' len' hw' => match v with
    | .ref id off len hw => id = id' ∧ off = off' ∧ len = len' ∧ hw = hw' ∧ L' id' ≠ none
    | .nils => off' = 0 ∧ len' = 0 ∧ hw' = 0 ∧ (match L id', L' id' with | none, some (.cells _ ro _ c) => ro = false ∧ c = [] | _, _ => False)
    | .nil0 => off' = 0 ∧ len' = 0 ∧ hw' = 0 ∧ (match L id', L' id' with | none, some (.cells _ ro _ c) => ro = false ∧ c = [] | _, _ => False)
    | _ => False
  | .any => True
  | v' => v = v' ∧ idsOK L' v'

theorem slotE_ok {L L' : Nat → Option Blk} {v v' : AV} (h : slotE L L' v v') : v' = .any ∨ slotOK L L' v v' := by
  cases v' <;> simp only [slotE] at h
  case any => exact .inl rfl
  case int k' n' =>
    cases v <;> simp only at h
    exact .inr (.inl ⟨by rw [h.1, h.2], trivial⟩)
  case bool b' =>
    cases v <;> simp only at h
    exact .inr (.inl ⟨by rw [h], trivial⟩)
  case str b' =>
    cases v <;> simp only at h
    exact .inr (.inl ⟨by rw [h], trivial⟩)
  case list sz' l' =>
    cases v <;> simp only at h
    case list sz l => exact .inr (.inl ⟨by rw [h.1, h.2], trivial⟩)
    case nils => exact .inr (.inr (.inr (.inr ⟨sz', .inl rfl, by rw [h]⟩)))
    case nil0 => exact .inr (.inr (.inr (.inr ⟨sz', .inr rfl, by rw [h]⟩)))
    case ref id off len hw =>
      split at h
      · rename_i sz ro d c h1 h2
        obtain ⟨rfl, rfl, h3, h4⟩ := h
        exact .inr (.inr (.inr (.inl ⟨id, off, len, hw, sz, ro, d, c, rfl, h1, h2, h3, h4, rfl⟩)))
      · exact h.elim
  case ref id' off' len' hw' =>
    cases v <;> simp only at h
    case ref id off len hw =>
      obtain ⟨rfl, rfl, rfl, rfl, h5⟩ := h
      exact .inr (.inl ⟨rfl, h5⟩)
    case nils =>
      obtain ⟨rfl, rfl, rfl, h4⟩ := h
      split at h4
      · rename_i sz ro d c h1 h2
        obtain ⟨rfl, rfl⟩ := h4
        exact .inr (.inr (.inl ⟨id', sz, d, .inl rfl, rfl, h1, h2⟩))
      · exact h4.elim
    case nil0 =>
      obtain ⟨rfl, rfl, rfl, h4⟩ := h
      split at h4
      · rename_i sz ro d c h1 h2
        obtain ⟨rfl, rfl⟩ := h4
        exact .inr (.inr (.inl ⟨id', sz, d, .inr rfl, rfl, h1, h2⟩))
      · exact h4.elim
  all_goals exact .inr (.inl ⟨h.1, h.2⟩)

/-! ### a form of forgetting that computes -/
def subTE (st : St) (L' : Nat → Option Blk) : List (Nat × AV) → Prop
  | [] => True
  | (t, v') :: r => slotE st.lk L' (st.get t) v' ∧ subTE st L' r
def noAnyT : List (Nat × AV) → Bool
  | [] => true
  | (_, .any) :: _ => false
  | _ :: r => noAnyT r
theorem subTE_ok {st : St} {L' : Nat → Option Blk} : ∀ {l : List (Nat × AV)}, noAnyT l = true → subTE st L' l → subT st L' l
  | [], _, _ => trivial
  | (t, v') :: r, hn, h => by
    have h1 : v' ≠ .any := fun e => by subst e; simp [noAnyT] at hn
    have h2 : noAnyT r = true := by cases v' <;> first | exact hn | exact absurd rfl h1
    rcases slotE_ok h.1 with h3 | h3
    · exact absurd h3 h1
    · exact ⟨h3, subTE_ok h2 h.2⟩

/-- A single reference: a form that computes. -/
def refOf : AV → Option AV
  | .ref a b c d => some (.ref a b c d)
  | .any => none
  | .bool _ => none
  | .int .. => none
  | .str _ => none
  | .agg _ => none
  | .tuple _ => none
  | .list .. => none
  | .own .. => none
  | .radr _ => none
  | .nils => none
  | .nil0 => none
  | .nilp => none
  | .nili => none
  | .nilf => none
  | .yld _ => none
  | .ptr .. => none
  | .it _ => none
  | .nxt .. => none
  | .clo .. => none
  | .cond .. => none
theorem refOf_any  : refOf (.any ) = none := rfl
theorem refOf_bool (b : Bool) : refOf (.bool b) = none := rfl
theorem refOf_int (k : IntKind) (n : Int) : refOf (.int k n) = none := rfl
theorem refOf_str (s : List UInt8) : refOf (.str s) = none := rfl
theorem refOf_agg (c : List AV) : refOf (.agg c) = none := rfl
theorem refOf_tuple (c : List AV) : refOf (.tuple c) = none := rfl
theorem refOf_list (n : Nat) (l : List AV) : refOf (.list n l) = none := rfl
theorem refOf_nils  : refOf (.nils ) = none := rfl
theorem refOf_nil0  : refOf (.nil0 ) = none := rfl
theorem refOf_nilp  : refOf (.nilp ) = none := rfl
theorem refOf_nili  : refOf (.nili ) = none := rfl
theorem refOf_nilf  : refOf (.nilf ) = none := rfl
theorem refOf_yld (i : Nat) : refOf (.yld i) = none := rfl
theorem refOf_ptr (a b c d : Nat) : refOf (.ptr a b c d) = none := rfl
theorem refOf_it (i : Nat) : refOf (.it i) = none := rfl
theorem refOf_clo (f : FuncId) (k : Nat) (l : List AV) : refOf (.clo f k l) = none := rfl
theorem refOf_cond (e : Bool) (v : AV) : refOf (.cond e v) = none := rfl
theorem refOf_radr (c : List AV) : refOf (.radr c) = none := rfl
theorem refOf_ref (a b c d : Nat) : refOf (.ref a b c d) = some (.ref a b c d) := rfl
theorem refOf_some {v x : AV} (h : refOf v = some x) : x = v ∧ ∃ a b c d, v = .ref a b c d := by
  cases v <;> simp only [refOf, Option.some.injEq, reduceCtorEq] at h
  exact ⟨h.symm, _, _, _, _, rfl⟩
def oneRef2 : List AV → Option AV → Option AV
  | [], o => o
  | _ :: _, _ => none
def oneRef : List AV → Option AV
  | [] => none
  | a :: r => oneRef2 r (refOf a)
theorem oneRef2_none (r : List AV) : oneRef2 r none = none := by cases r <;> rfl
theorem oneRef_some {l : List AV} {x : AV} (h : oneRef l = some x) : l = [x] ∧ ∃ a b c d, x = .ref a b c d := by
  cases l with
  | nil => cases h
  | cons a r =>
    cases r with
    | nil =>
      obtain ⟨rfl, h2⟩ := refOf_some (show refOf a = some x from h)
      exact ⟨rfl, h2⟩
    | cons b t => cases h
theorem oneRef_map {α : Type} {f : α → AV} (h : ∀ x, refOf (f x) = none) (l : List α) : oneRef (l.map f) = none := by
  cases l with
  | nil => rfl
  | cons a r => show oneRef2 _ (refOf (f a)) = none; rw [h, oneRef2_none]
theorem oneRef_append {α : Type} {f : α → AV} (h : ∀ x, refOf (f x) = none) (l : List α) (b : List AV) (hb : oneRef b = none) : oneRef (l.map f ++ b) = none := by
  cases l with
  | nil => exact hb
  | cons a r => show oneRef2 _ (refOf (f a)) = none; rw [h, oneRef2_none]
theorem oneRef_replicate (n : Nat) (v : AV) (h : refOf v = none) : oneRef (List.replicate n v) = none := by
  cases n with
  | zero => rfl
  | succ n => show oneRef2 _ (refOf v) = none; rw [h, oneRef2_none]
/-- A block's contents in other words: a form that computes. -/
def refE (L L' : Nat → Option Blk) : List AV → AV → Prop
  | [y], v => slotE L L' y v
  | _, _ => False
def contX (L L' : Nat → Option Blk) (c c' : List AV) : Option AV → Prop
  | some v => refE L L' c v
  | none => c = c' ∧ contOK L' c'
def contE (L L' : Nat → Option Blk) (c c' : List AV) : Prop := contX L L' c c' (oneRef c')
theorem oneRef_nil : oneRef [] = none := rfl
theorem oneRef_cons (a : AV) (r : List AV) : oneRef (a :: r) = oneRef2 r (refOf a) := rfl
theorem oneRef2_nil (o : Option AV) : oneRef2 [] o = o := rfl
theorem contX_some {L L' : Nat → Option Blk} {c c' : List AV} {v : AV} : contX L L' c c' (some v) = refE L L' c v := rfl
theorem contX_none {L L' : Nat → Option Blk} {c c' : List AV} : contX L L' c c' none = (c = c' ∧ contOK L' c') := rfl
theorem refE_one {L L' : Nat → Option Blk} {y v : AV} : refE L L' [y] v = slotE L L' y v := rfl
theorem contE_ok {L L' : Nat → Option Blk} {c c' : List AV} (h : contE L L' c c') : (c = c' ∧ contOK L' c') ∨ contS L L' c c' := by
  unfold contE at h
  cases ho : oneRef c' with
  | none => rw [ho] at h; exact .inl h
  | some v =>
    rw [ho] at h
    obtain ⟨rfl, id', off', len', hw', rfl⟩ := oneRef_some ho
    simp only [contX] at h
    match c, h with
    | [y], h =>
      right
      simp only [refE] at h
      have hy : y.cells = [y] := by
        cases y <;> first | rfl | (simp only [slotE] at h)
      refine ⟨rfl, fun i x x' hx hx' => ?_⟩
      cases i with
      | succ i => simp at hx
      | zero =>
        simp at hx hx'
        subst hx; subst hx'
        refine ⟨by rw [hy]; rfl, fun j z z' hz hz' => ?_⟩
        cases j with
        | succ j => simp [AV.cells] at hz'
        | zero =>
          simp [AV.cells] at hz'
          subst hz'
          rw [hy] at hz
          simp at hz
          subst hz
          rcases slotE_ok h with h1 | h1
          · cases h1
          · exact h1
def blkE (L : Nat → Option Blk) (o : Option Blk) (L' : Nat → Option Blk) (b' : Blk) : Prop :=
  match b' with
  | .cells sz' ro' d' c' => match o with
    | some (.cells sz ro d c) => sz = sz' ∧ ro = ro' ∧ d = d' ∧ contE L L' c c'
    | none => ro' = false ∧ c' = []
    | _ => False
  | .iter s' p' => match o with
    | some (.iter s p) => s = s' ∧ p = p'
    | _ => False
  | .loop lc' st' pd' sl' => match o with
    | some (.loop lc st pd sl) => lc = lc' ∧ st = st' ∧ pd = pd' ∧ sl = sl' ∧ idsOKS L' sl'
    | _ => False
  | .defer => match o with
    | some .defer => True
    | _ => False
def subBE (L L' : Nat → Option Blk) : List (Nat × Blk) → Prop
  | [] => True
  | (id, b) :: r => blkE L (L id) L' b ∧ subBE L L' r
theorem subBE_ok {L L' : Nat → Option Blk} : ∀ {l : List (Nat × Blk)}, subBE L L' l → subB L L' l
  | [], _ => trivial
  | (id, b) :: r, h => by
    refine ⟨?_, subBE_ok h.2⟩
    have h1 := h.1
    unfold blkE at h1
    cases b with
    | cells sz' ro' d' c' =>
      simp only at h1
      split at h1
      · rename_i e
        obtain ⟨rfl, rfl, rfl, h2⟩ := h1
        rcases contE_ok h2 with ⟨rfl, h3⟩ | h3
        · exact .inl ⟨e, h3⟩
        · exact .inr (.inr ⟨_, _, _, _, _, e, rfl, h3⟩)
      · rename_i e
        obtain ⟨rfl, rfl⟩ := h1
        exact .inr (.inl ⟨e, _, _, rfl⟩)
      · exact h1.elim
    | iter s' p' =>
      simp only at h1
      split at h1
      · rename_i e
        obtain ⟨rfl, rfl⟩ := h1
        exact .inl ⟨e, trivial⟩
      · exact h1.elim
    | loop lc' st' pd' sl' =>
      simp only at h1
      split at h1
      · rename_i e
        obtain ⟨rfl, rfl, rfl, rfl, h2⟩ := h1
        exact .inl ⟨e, h2⟩
      · exact h1.elim
    | defer =>
      simp only at h1
      split at h1
      · rename_i e
        exact .inl ⟨e, trivial⟩
      · exact h1.elim

def WeakE (m : Nat) (st st' : St) : Prop := noAnyT st'.tmps = true ∧ subTE st st'.lk st'.tmps ∧ subBE st.lk st'.lk st'.L ∧ extsOK st.lk st'.lk m
theorem WeakE.weak {m : Nat} {st st' : St} (h : WeakE m st st') : Weak m st st' := .base ⟨subTE_ok h.1 h.2.1, subBE_ok h.2.2.1, h.2.2.2⟩
/-- The same, where pairs of blocks may have changed their names. -/
def WeakS (m : Nat) : List (Nat × Nat) → St → St → Prop
  | [], s, t => WeakE m s t
  | (a, b) :: r, s, t => WeakS m r s t ∨ ((m ≤ a ∧ m ≤ b ∧ a ≠ defId ∧ b ≠ defId) ∧ WeakS m r (s.swap a b) t)
theorem WeakS_nil {m : Nat} {s t : St} : WeakS m [] s t = WeakE m s t := rfl
theorem WeakS_cons {m a b : Nat} {r : List (Nat × Nat)} {s t : St} : WeakS m ((a, b) :: r) s t = (WeakS m r s t ∨ ((m ≤ a ∧ m ≤ b ∧ a ≠ defId ∧ b ≠ defId) ∧ WeakS m r (s.swap a b) t)) := rfl
theorem WeakS.weak {m : Nat} : ∀ {sw : List (Nat × Nat)} {s t : St}, WeakS m sw s t → Weak m s t
  | [], s, t, h => WeakE.weak h
  | (a, b) :: r, s, t, h => by
    rcases h with h | ⟨⟨h1, h2, h3, h4⟩, h⟩
    · exact WeakS.weak h
    · exact .swap a b h1 h2 h3 h4 (WeakS.weak h)


theorem subTE_eq {s t : St} {L' : Nat → Option Blk} (he : StEq s t) : ∀ {l : List (Nat × AV)}, subTE s L' l → subTE t L' l
  | [], _ => trivial
  | (k, v) :: r, h => ⟨by have := h.1; rw [he.1, he.2] at this; exact this, subTE_eq he h.2⟩
theorem WeakE.eq {m : Nat} {s t x : St} (h : WeakE m s x) (he : StEq s t) : WeakE m t x :=
  ⟨h.1, subTE_eq he h.2.1, by rw [← he.2]; exact h.2.2.1, by rw [← he.2]; exact h.2.2.2⟩
end Go.Abs
