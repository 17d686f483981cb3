/- Contracts as the templates tell them: arguments in other words, blocks handed back. No condition. -/
import Derived.Test.YtlkfjkimnkhelaaDoorAbsS
set_option linter.unusedVariables false
set_option linter.unusedSimpArgs false
namespace Go.Abs

/-! ### an argument in other words -/
def argOK (a b : AV) : Prop :=
  match a with
  | .nils => match b with
    | .list _ l => l = []
    | b => .nils = b
  | .nil0 => match b with
    | .list _ l => l = []
    | b => .nil0 = b
  | a => a = b
theorem argOK.R {w ok L φ a b v} (h : argOK a b) (hr : R w ok L φ a v) : R w ok L φ b v := by
  unfold argOK at h
  split at h
  · split at h
    · subst h
      obtain rfl : v = .slice none 0 0 := by cases hr with | pure _ _ h => cases h; rfl
      exact .pure _ _ (.list0 _ none 0 (Nat.zero_le _))
    · rw [← h]; exact hr
  · split at h
    · subst h
      obtain ⟨a0, rfl⟩ : ∃ a0, v = .slice a0 0 0 := by cases hr with | pure _ _ h => cases h; exact ⟨_, rfl⟩
      exact .pure _ _ (.list0 _ a0 0 (Nat.zero_le _))
    · rw [← h]; exact hr
  · rw [← h]; exact hr
theorem argOK.refl (a : AV) : argOK a a := by
  unfold argOK
  split <;> rfl
inductive ArgsOK : List AV → List AV → Prop
  | nil : ArgsOK [] []
  | cons {a b as bs} (h : argOK a b) (r : ArgsOK as bs) : ArgsOK (a :: as) (b :: bs)
theorem ArgsOK.len {as bs} (h : ArgsOK as bs) : as.length = bs.length := by induction h <;> simp_all
theorem ArgsOK.get {as bs} (h : ArgsOK as bs) : ∀ (i : Nat) (b : AV), bs[i]? = some b → ∃ a, as[i]? = some a ∧ argOK a b := by
  induction h with
  | nil => intro i b hb; simp at hb
  | cons h r ih =>
    intro i b hb
    cases i with
    | zero => simp at hb; subst hb; exact ⟨_, rfl, h⟩
    | succ i => exact ih i b (by simpa using hb)
theorem SpecE.args {P : Program} {f : FuncId} {E E' : List Blk} {as bs : List AV} {res : AV} (h : SpecE P f E bs E' res) (ha : ArgsOK as bs) : SpecE P f E as E' res := by
  intro w ok φ vs hh hl hr
  refine h w ok φ vs hh (by rw [hl, ha.len]) (fun i b v hb hv => ?_)
  obtain ⟨a, h1, h2⟩ := ha.get i b hb
  exact h2.R (hr i a v h1 hv)

/-! ### blocks handed back -/
def FinEv (P : Program) (m : Nat) (xs : List Nat) (rl : List ResultVar) (E' : List Blk) (res : List AV) (st : St) : Prop :=
  match resR P st.lk st.get rl with
  | some (l, p) => p ∧ noAny (renL (sigX m xs) res) = true ∧ okX m xs ∧ E'.length = m + xs.length ∧ subP st.lk (lkB (newBlks (sigX m xs) E' 0)) l (renL (sigX m xs) res) ∧
    subBE st.lk (lkB (newBlks (sigX m xs) E' 0)) (newBlks (sigX m xs) E' 0) ∧ extsOK st.lk (lkB (newBlks (sigX m xs) E' 0)) m ∧ st.lk defId = none
  | none => False
def FinE (P : Program) (m : Nat) (xs : List Nat) (rl : List ResultVar) (E' : List Blk) (res : List AV) : Ex → St → Prop
  | .exit _, _ => False
  | .normal, st => FinEv P m xs rl E' res st
  | .ret, st => FinEv P m xs rl E' res st
theorem finEv_ok {P m xs rl E' res st} (h : FinEv P m xs rl E' res st) : Ret P m rl E' res st := by
  unfold FinEv at h
  split at h
  · rename_i l p hr
    exact ⟨l, p, xs, hr, h.1, h.2.2.1, h.2.2.2.1, subP_ok h.2.1 h.2.2.2.2.1, subBE_ok h.2.2.2.2.2.1, h.2.2.2.2.2.2.1, h.2.2.2.2.2.2.2⟩
  · exact h.elim
theorem specFE {P : Program} {C : Tbl} {wr : Bool} {D : Nat → List Nat} {U : Nat → Option CutS} {f : Nat} {fn : Func} {E E' : List Blk} {args res : List AV} {nE nA : Nat} (xs : List Nat)
    (hm : P.follows .mixedOrders = true) (hC : TblOK P C) (hf : P.funcs[f]? = some fn) (hok : fnOK P fn D nE nA = true) (hE : E.length = nE) (hA : args.length = nA)
    (h : W P C wr D U nE (bodyOf fn) (St.init E args) (FinE P nE xs (rlOf fn) E' res)) : SpecE P f E args E' (resAV res) := by
  refine specF hm hC hf hok hE hA (W_mono _ _ _ _ (fun e s hs => ?_) h)
  cases e with
  | normal => exact finEv_ok hs
  | exit i => exact hs
  | ret => exact finEv_ok hs

/-- The same behind a range over a function. -/
def FinEvM (P : Program) (m : Nat) (xs : List Nat) (rl : List ResultVar) (E' : List Blk) (res : List AV) (st : St) : Prop := FinEv P m xs rl E' res st.del ∧ ∀ b, st.lk defId = some b → b = .defer
def FinEM (P : Program) (m : Nat) (xs : List Nat) (rl : List ResultVar) (E' : List Blk) (res : List AV) : Ex → St → Prop
  | .exit _, _ => False
  | .normal, st => FinEvM P m xs rl E' res st
  | .ret, st => FinEvM P m xs rl E' res st
theorem specFEM {P : Program} {C : Tbl} {wr : Bool} {D : Nat → List Nat} {U : Nat → Option CutS} {f : Nat} {fn : Func} {E E' : List Blk} {args res : List AV} {nE nA : Nat} (xs : List Nat)
    (hm : P.follows .mixedOrders = true) (hC : TblOK P C) (hf : P.funcs[f]? = some fn) (hok : fnOK P fn D nE nA = true) (hE : E.length = nE) (hA : args.length = nA)
    (h : W P C wr D U nE (bodyOf fn) (St.init E args) (FinEM P nE xs (rlOf fn) E' res)) : SpecE P f E args E' (resAV res) := by
  refine specFM hm hC hf hok hE hA (W_mono _ _ _ _ (fun e s hs => ?_) h)
  cases e with
  | normal => exact ⟨finEv_ok hs.1, hs.2⟩
  | exit i => exact hs
  | ret => exact ⟨finEv_ok hs.1, hs.2⟩

/-! ### a round of a loop over a function -/
def setP : List Tmp → List AV → List (Nat × AV) → List (Nat × AV)
  | p :: ps, a :: as, sl => setP ps as ((p, a) :: sl)
  | _, _, sl => sl
def YG (m : Nat) (xs : List Nat) (E' : List Blk) (st : St) : Prop :=
  okX m xs ∧ E'.length = m + xs.length ∧ subBE st.lk (lkB (newBlks (sigX m xs) E' 0)) (newBlks (sigX m xs) E' 0) ∧ extsOK st.lk (lkB (newBlks (sigX m xs) E' 0)) m ∧ st.lk defId = none
def YF (m : Nat) (lc : LoopC) (sl : List (Nat × AV)) (E' : List Blk) (b : Bool) (xs : List Nat) (st : St) (s : LoopState) (pd : Option Code) (b' : Bool) : Prop :=
  b' = b ∧ st.lk 0 = some (.loop lc .busy none sl) ∧ YG m xs E' (st.upd [(0, .loop lc s pd sl)])
def YB (m : Nat) (lc : LoopC) (sl : List (Nat × AV)) (E' : List Blk) (b : Bool) (xs : List Nat) : Ex → St → Prop
  | .normal, st => YF m lc sl E' b xs st .ready none true
  | .ret, st => YF m lc sl E' b xs st .done (some .ret) false
  | .exit i, st => YF m lc sl E' b xs st .done (some (.exit i)) false
def YA (P : Program) (C : Tbl) (wr : Bool) (D : Nat → List Nat) (U : Nat → Option CutS) (m : Nat) (lc : LoopC) (sl : List (Nat × AV)) (E' : List Blk) (b : Bool) (xs : List Nat) : Ex → St → Prop
  | .normal, st => st.lk 0 = some (.loop lc .ready none sl) ∧ W P C wr D U m lc.body (st.upd [(0, .loop lc .busy none sl)]) (YB m lc sl E' b xs)
  | .ret, _ => False
  | .exit _, _ => False
theorem YA_normal {P C wr D U m lc sl E' b xs st} : YA P C wr D U m lc sl E' b xs .normal st = (st.lk 0 = some (.loop lc .ready none sl) ∧ @V P C wr m (st.upd [(0, .loop lc .busy none sl)]) ⟨D⟩ ⟨U⟩ ⟨lc.body⟩ ⟨YB m lc sl E' b xs⟩) := rfl
def yOK (P : Program) (lc : LoopC) (D : Nat → List Nat) (nE : Nat) : Bool :=
  codeOK P lc.n D lc.assign && codeOK P lc.n D lc.body && (noRF lc.assign && noRF lc.body) && decide (nE ≤ defId) && lc.ps.toList.all fun p => decide (p < lc.n)

theorem setP_slots {w ok L φ} {n : Nat} : ∀ {ps : List Tmp} {as : List AV} {vs : List Value} {sl : List (Nat × AV)} {tm : Array Value}, ps.length = as.length → vs.length = as.length → (∀ p ∈ ps, p < n) → tm.size = n →
    (∀ (i : Nat) (a : AV) (v : Value), as[i]? = some a → vs[i]? = some v → R w ok L φ a v) → (∀ t, R w ok L φ (lkA sl t) (tm.getD t undef)) →
    ((ps.zip vs).foldl (fun t (p : Tmp × Value) => t.setIfInBounds p.1 p.2) tm).size = n ∧ ∀ t, R w ok L φ (lkA (setP ps as sl) t) (((ps.zip vs).foldl (fun t (p : Tmp × Value) => t.setIfInBounds p.1 p.2) tm).getD t undef)
  | [], as, vs, sl, tm, h1, h2, h3, h4, h5, h6 => by simp only [setP, List.zip_nil_left, List.foldl_nil]; exact ⟨h4, h6⟩
  | p :: ps, [], vs, sl, tm, h1, _, _, _, _, _ => by simp at h1
  | p :: ps, a :: as, [], sl, tm, _, h2, _, _, _, _ => by simp at h2
  | p :: ps, a :: as, v :: vs, sl, tm, h1, h2, h3, h4, h5, h6 => by
    simp only [setP, List.zip_cons_cons, List.foldl_cons]
    refine setP_slots (by simpa using h1) (by simpa using h2) (fun q hq => h3 q (List.mem_cons_of_mem _ hq)) (by simp [h4]) (fun i x u hx hu => h5 (i + 1) x u (by simpa using hx) (by simpa using hu)) (fun t => ?_)
    have hp : p < tm.size := by rw [h4]; exact h3 p List.mem_cons_self
    simp only [lkA]
    by_cases e : p = t
    · subst e
      rw [if_pos rfl, getD_set_same _ _ _ _ hp]
      exact h5 0 a v rfl rfl
    · rw [if_neg e, getD_set_other _ _ _ _ _ e]
      exact h6 t

/-- A ROUND's CONTRACT, out of the walk of the assignments and of the body. -/
theorem specY {P : Program} {C : Tbl} {wr : Bool} {D : Nat → List Nat} {U : Nat → Option CutS} {lc : LoopC} {sl : List (Nat × AV)} {E' : List Blk} {E : List Blk} {args : List AV} {b : Bool} {nE : Nat} (xs : List Nat)
    (hm : P.follows .mixedOrders = true) (hC : TblOK P C) (hok : yOK P lc D nE = true) (hE : E.length + 1 = nE) (hps : lc.ps.size = args.length)
    (h : W P C wr D U nE lc.assign ⟨setP lc.ps.toList args sl, extB (.loop lc .ready none sl :: E) 0⟩ (YA P C wr D U nE lc sl E' b xs)) : SpecE P yldF (.loop lc .ready none sl :: E) (.yld 0 :: args) E' (.bool b) := by
  simp only [yOK, Bool.and_eq_true, decide_eq_true_eq, List.all_eq_true] at hok
  obtain ⟨⟨⟨⟨o1, o2⟩, o3, o4⟩, o5⟩, o6⟩ := hok
  intro w ok φ vs hh hl hr
  rcases vs with _ | ⟨v0, us⟩
  · simp at hl
  have hlen : (Blk.loop lc .ready none sl :: E).length = nE := by simp [hE]
  have h0 := hr 0 _ _ rfl rfl
  obtain ⟨b0, hφ0, rfl⟩ : ∃ b0, φ 0 = some b0 ∧ v0 = .func (.yield b0) #[] #[] := by
    cases h0 with
    | pure _ _ h => cases h
    | yld _ lc st pd sl b hL hφ => exact ⟨b, hφ, rfl⟩
  obtain ⟨b1, o, g1, g2, g3⟩ := hh.obj 0 (.loop lc .ready none sl) rfl rfl
  rw [hφ0] at g1; cases g1
  cases g3 with
  | loop _ _ _ _ r hro =>
    have hy := run_yield (P := P) (args := us.toArray) g2 (by rw [hro.params, hps]; simp only [List.length_cons] at hl; simp; omega)
    have hinv : InvF yldF (.func (.yield b0) #[] #[] :: us) = Instr.yield b0 us.toArray := by simp only [InvF, if_true]
    rw [← hinv] at hy
    refine ⟨_, _, hy, ?_⟩
    intro F hF n
    have hF' : Good (F.inRound b0) := by
      rcases hF with rfl | ⟨l, rfl⟩
      · exact .inr ⟨b0, rfl⟩
      · exact .inr ⟨b0, rfl⟩
    rw [hro.assign, hro.body, hro.params]
    refine roundIn_of_wpIn (hF.fn _) ?_
    have hlk' : (St.lk ⟨setP lc.ps.toList args sl, extB (.loop lc .ready none sl :: E) 0⟩) = lkE (.loop lc .ready none sl :: E) := by
      funext i; simp [St.lk, extB_get, lkE]
    obtain ⟨z1, z2⟩ := setP_slots (w := w) (ok := ok) (L := lkE (.loop lc .ready none sl :: E)) (φ := φ) (n := lc.n) (ps := lc.ps.toList) (as := args) (vs := us) (sl := sl) (tm := r.tmps) (by simp [hps]) (by simpa using hl) o6 hro.size
      (fun i a v ha hv => hr (i + 1) a v (by simpa using ha) (by simpa using hv)) hro.slots
    have hfold : ((lc.ps.zip us.toArray).foldl (fun tmps (x : Tmp × Value) => tmps.setIfInBounds x.1 x.2) r.tmps) = (lc.ps.toList.zip us).foldl (fun t (p : Tmp × Value) => t.setIfInBounds p.1 p.2) r.tmps := by
      rw [← Array.foldl_toList]; simp
    have S0 : Sim lc.n (lkE (.loop lc .ready none sl :: E)) φ ok w ⟨setP lc.ps.toList args sl, extB (.loop lc .ready none sl :: E) 0⟩ ok φ
        { tmps := (lc.ps.zip us.toArray).foldl (fun tmps (x : Tmp × Value) => tmps.setIfInBounds x.1 x.2) r.tmps, defers := [] } w := by
      refine ⟨fun t => ?_, by rw [hfold]; exact z1, .inl rfl, by rw [hlk']; exact hh, by rw [hlk']; exact Keeps.refl _ _ _ _, Fr.refl _ _, fun id b hb => .inl ⟨id, hb⟩, fun b o hb => .inl hb⟩
      rw [hlk', hfold]; exact z2 t
    have hL0 : ∀ i, lkE (Blk.loop lc .ready none sl :: E) i ≠ none → i < nE := fun i hi => by
      rcases Nat.lt_or_ge i nE with h' | h'
      · exact h'
      · exact absurd (List.getElem?_eq_none_iff.2 (by omega)) hi
    have keq : ∀ (e : Ex) (s t : St), StEq s t → YB nE lc sl E' b xs e s → YB nE lc sl E' b xs e t := by
      intro e s t he hs
      have k : ∀ st' pd b', YF nE lc sl E' b xs s st' pd b' → YF nE lc sl E' b xs t st' pd b' := by
        rintro st' pd b' ⟨q1, q2, q3⟩
        refine ⟨q1, by rw [← he.2]; exact q2, ?_⟩
        have e2 : (t.upd [(0, .loop lc st' pd sl)]).lk = (s.upd [(0, .loop lc st' pd sl)]).lk := by rw [lk_upd1, lk_upd1, he.2]
        simp only [YG, e2]; exact q3
      cases e <;> exact k _ _ _ hs
    refine wpIn_mono (W_wp hF' (N := lc.n) (L0 := lkE (.loop lc .ready none sl :: E)) (φ0 := φ) (ok0 := ok) (w0 := w) hm hC hL0 lc.assign _ _ ok φ _ w (.inr o3) o1 (fun e s t he hs => ?_) h S0) (fun e a1 w1 hp => ?_)
    · cases e with
      | normal =>
        obtain ⟨q1, q2⟩ := hs
        refine ⟨by rw [← he.2]; exact q1, W_eq lc.body _ keq (s.upd [(0, .loop lc .busy none sl)]) (t.upd [(0, .loop lc .busy none sl)]) ⟨he.1, by rw [lk_upd1, lk_upd1, he.2]⟩ q2⟩
      | exit i => exact hs
      | ret => exact hs
    obtain ⟨e', st1, ok1, φ1, rfl, hq, S1⟩ := hp
    cases e' with
    | exit i => exact hq.elim
    | ret => exact hq.elim
    | normal =>
      obtain ⟨q1, q2⟩ := hq
      -- the record at any time
      have at0 : ∀ {st2 ok2 φ2 a2 w2 s2}, Sim lc.n (lkE (.loop lc .ready none sl :: E)) φ ok w st2 ok2 φ2 a2 w2 → st2.lk 0 = some (.loop lc s2 none sl) →
          ∃ r2, φ2 0 = some b0 ∧ w2.heap[b0]? = some (.loop r2) ∧ LoopOK w2 ok2 st2.lk φ2 lc s2 none sl r2 := by
        intro st2 ok2 φ2 a2 w2 s2 S2 hk
        obtain ⟨bb, k1, k2, k3⟩ := S2.kept.obj 0 (.loop lc .ready none sl) rfl rfl
        obtain ⟨b2, o2, k4, k5, k6⟩ := S2.heap.obj 0 _ hk rfl
        rw [k3, hφ0] at k4; cases k4
        cases k6 with
        | loop _ _ _ _ r2 hr2 => exact ⟨r2, by rw [k3]; exact hφ0, k5, hr2⟩
      have turn : ∀ {st2 ok2 φ2 a2 w2 s2} (s3 : LoopState) (pd : Option Code) (r3 : Loop), Sim lc.n (lkE (.loop lc .ready none sl :: E)) φ ok w st2 ok2 φ2 a2 w2 → st2.lk 0 = some (.loop lc s2 none sl) →
          LoopOK w2 ok2 st2.lk φ2 lc s3 pd sl r3 → Sim lc.n (lkE (.loop lc .ready none sl :: E)) φ ok w (st2.upd [(0, .loop lc s3 pd sl)]) ok2 φ2 a2 (w2.putObj b0 (.loop r3)) := by
        intro st2 ok2 φ2 a2 w2 s2 s3 pd r3 S2 hk hr3
        obtain ⟨r2, k1, k2, k3⟩ := at0 S2 hk
        have hwr : Wr b0 w2 (w2.putObj b0 (.loop r3)) := ⟨rfl, rfl, rfl, by simp, fun k hk => World.putObj_heap_other hk⟩
        have x := Ext.wrote (w0 := w) (X := fun b => ∃ i, φ i = some b) (blk := .loop lc s3 pd sl) S2.heap k1 hwr (.inr ⟨_, _, hk, rfl, World.putObj_heap_same (Array.getElem?_eq_some_iff.1 k2).1, .loop _ _ _ _ _ hr3⟩)
        rw [← lk_upd1] at x
        exact S2.upd1 x
      obtain ⟨r1, k1, k2, k3⟩ := at0 S1 q1
      refine ⟨_, run_beginRound k2 k3.state, ?_⟩
      have S2 := turn .busy none { r1 with state := .busy } S1 q1 ⟨rfl, k3.pending, k3.params, k3.assign, k3.body, k3.size, k3.slots⟩
      refine wpIn_mono (W_wp hF' (N := lc.n) (L0 := lkE (.loop lc .ready none sl :: E)) (φ0 := φ) (ok0 := ok) (w0 := w) hm hC hL0 lc.body _ _ _ _ _ _ (.inr o4) o2 keq q2 S2) (fun e a2 w2 hp => ?_)
      obtain ⟨e', st2, ok2, φ2, rfl, hq, S3⟩ := hp
      have fin : ∀ (jump : Option Code), YF nE lc sl E' b xs st2 (if jump.isNone then .ready else .done) jump jump.isNone →
          ∃ v w', (Instr.endRound b0 jump).run P w2 = .ok v w' ∧ (∃ v' ok' φ', Ending.returned v = .returned v' ∧ PostE w ok (lkE (.loop lc .ready none sl :: E)) φ w' ok' φ' (lkE E') (.bool b) v') := by
        rintro jump ⟨q1, q2, q3, q4, q5, q6, q7⟩
        obtain ⟨r2, k1, k2, k3⟩ := at0 S3 q2
        have hend := run_endRound (P := P) jump k2
        have S4 := turn (if jump.isNone then .ready else .done) jump { r2 with state := if jump.isNone then .ready else .done, pending := jump } S3 q2 ⟨rfl, rfl, k3.params, k3.assign, k3.body, k3.size, k3.slots⟩
        subst hE
        obtain ⟨ok3, φ3, post⟩ := S4.post (E' := E') (l := [.bool jump.isNone]) (res := [.bool b]) (vs' := [.bool jump.isNone]) (xs := xs) (by simp only [List.length_cons, deadId, defId] at o5 ⊢; omega) rfl
          (fun i a v ha hv => by
            cases i with
            | zero => simp at ha hv; subst ha; subst hv; exact .pure _ _ (.bool _)
            | succ i => simp at ha)
          q3 q4 ⟨.inl ⟨by simp only [Abs.ren]; rw [q1], trivial⟩, trivial⟩ (subBE_ok q5) q6
        exact ⟨_, _, hend, _, ok3, φ3, rfl, post⟩
      cases e' with
      | normal => exact fin none hq
      | ret => exact fin (some .ret) hq
      | exit i => exact fin (some (.exit i)) hq

/-! ### what values stand for -/
def toStr : AV → List UInt8
  | .str s => s
  | _ => []
def toInt : AV → Int
  | .int _ n => n
  | _ => 0
def enc_u8 (c : UInt8) : AV := .int .u8 c.toNat
def dec_u8 (a : AV) : UInt8 := UInt8.ofNat (toInt a).toNat
theorem dec_u8_byte (c : UInt8) : UInt8.ofNat ((c.toNat : Int)).toNat = c := by simp
def listOf : AV → List AV
  | .list _ l => l
  | _ => []
def enc_strs (l : List (List UInt8)) : AV := .list 1 (l.map .str)
def dec_strs (a : AV) : List (List UInt8) := (listOf a).map toStr
def enc_ints (l : List Int) : AV := .list 1 (l.map (.int .i64))
def dec_ints (a : AV) : List Int := (listOf a).map toInt
def enc_bytes (l : List UInt8) : AV := .list 1 (l.map byteAV)
def dec_bytes (a : AV) : List UInt8 := (listOf a).map toByte
theorem map_str_toStr (l : List (List UInt8)) : (l.map AV.str).map toStr = l := by simp [List.map_map, Function.comp_def, toStr]
theorem map_int_toInt (l : List Int) : (l.map (AV.int .i64)).map toInt = l := by simp [List.map_map, Function.comp_def, toInt]
theorem toByte_byteAV (b : UInt8) : toByte (byteAV b) = b := by simp [toByte, byteAV]
theorem map_byte_toByte (l : List UInt8) : (l.map byteAV).map toByte = l := by simp [List.map_map, Function.comp_def, toByte_byteAV]

theorem getD_map_str (l : List (List UInt8)) (n : Nat) : (l.map AV.str).getD n (AV.str []) = AV.str (l.getD n []) := by
  simp only [List.getD_eq_getElem?_getD, List.getElem?_map]; cases l[n]? <;> rfl
theorem getD_map_int (l : List Int) (n : Nat) : (l.map (AV.int .i64)).getD n (AV.int .i64 0) = AV.int .i64 (l.getD n 0) := by
  simp only [List.getD_eq_getElem?_getD, List.getElem?_map]; cases l[n]? <;> rfl
theorem getD_map_byte (l : List UInt8) (n : Nat) : (l.map byteAV).getD n (AV.int .u8 0) = byteAV (l.getD n 0) := by
  simp only [List.getD_eq_getElem?_getD, List.getElem?_map]; cases l[n]? <;> rfl
theorem pureEl_str (l : List (List UInt8)) : pureEl (l.map AV.str) = true := pureEl_map _ l (fun x => rfl)
theorem pureEl_int (l : List Int) : pureEl (l.map (AV.int .i64)) = true := pureEl_map _ l (fun x => rfl)
theorem pureEl_byte (l : List UInt8) : pureEl (l.map byteAV) = true := pureEl_map _ l (fun x => rfl)
theorem contOK_pure {L : Nat → Option Blk} {c : List AV} (h : pureEl c = true) : contOK L c = True := eq_true (.inl h)
theorem pureEl_nil : pureEl [] = true := rfl
theorem pureEl_cons {x : AV} {r : List AV} : pureEl (x :: r) = (pureBL x.cells && pureEl r) := rfl
theorem pureEl_append {a b : List AV} : pureEl (a ++ b) = (pureEl a && pureEl b) := by simp [pureEl]
theorem contOK_ids {L : Nat → Option Blk} {c : List AV} (h : idsOKL L (c.flatMap AV.cells) = True) : contOK L c = True := eq_true (.inr (by rw [h]; trivial))
theorem u8_lit (c : UInt8) (n : Nat) (h : n < 256) : ((c.toNat : Int) = no_index (@OfNat.ofNat Int n instOfNat)) = (c = @OfNat.ofNat UInt8 n UInt8.instOfNat) := by
  apply propext
  constructor
  · intro e
    apply UInt8.toNat.inj
    have e' : c.toNat = n := by
      have : (c.toNat : Int) = (n : Int) := e
      omega
    rw [e']
    show n = (UInt8.ofNat n).toNat
    simp; omega
  · intro e
    subst e
    show (((UInt8.ofNat n).toNat : Nat) : Int) = (n : Int)
    simp; omega
theorem u8_inj (c b : UInt8) : ((c.toNat : Int) = (b.toNat : Int)) = (c = b) := propext ⟨fun h => UInt8.toNat.inj (by omega), fun h => by rw [h]⟩
theorem range_1 : List.range 1 = [0] := rfl
theorem range_2 : List.range 2 = [0, 1] := rfl
theorem range_3 : List.range 3 = [0, 1, 2] := rfl
theorem range_4 : List.range 4 = [0, 1, 2, 3] := rfl
theorem range_5 : List.range 5 = [0, 1, 2, 3, 4] := rfl
theorem range_6 : List.range 6 = [0, 1, 2, 3, 4, 5] := rfl
theorem range_7 : List.range 7 = [0, 1, 2, 3, 4, 5, 6] := rfl
theorem range_8 : List.range 8 = [0, 1, 2, 3, 4, 5, 6, 7] := rfl
theorem toNat_add2 (n : Nat) : ((n : Int) + 1 + 1).toNat = n + 2 := by omega
theorem toNat_sub1 (n : Nat) : ((n : Int) - 1).toNat = n - 1 := by omega
theorem toNat_add (n m : Nat) : ((n : Int) + (m : Int)).toNat = n + m := by omega
theorem toNat_lit (n m : Nat) : ((n : Int) + no_index (@OfNat.ofNat Int m instOfNat)).toNat = n + m := by
  show ((n : Int) + (m : Int)).toNat = n + m
  omega
theorem take_min {α : Type} (s : List α) (n : Nat) : List.take (min (s.length : Int) (no_index (@OfNat.ofNat Int n instOfNat))).toNat s = List.take n s := by
  show List.take (min (s.length : Int) (n : Int)).toNat s = List.take n s
  rcases Nat.le_total s.length n with h | h
  · rw [List.take_of_length_le h, List.take_of_length_le (by omega)]
  · congr 1; omega
theorem min_ge (a n : Nat) : (0 ≤ min (a : Int) (no_index (@OfNat.ofNat Int n instOfNat))) = True := by
  show (0 ≤ min (a : Int) (n : Int)) = True
  exact eq_true (by omega)
theorem min_le_l (a n : Nat) : (min (a : Int) (no_index (@OfNat.ofNat Int n instOfNat)) ≤ (a : Int)) = True := eq_true (by omega)
theorem take_map {α : Type} (f : α → AV) (l : List α) (n : Nat) : List.take n (List.map f l) = List.map f (List.take n l) := (List.map_take ..).symm
theorem drop_map {α : Type} (f : α → AV) (l : List α) (n : Nat) : List.drop n (List.map f l) = List.map f (List.drop n l) := (List.map_drop ..).symm
theorem allU8_byte (l : List UInt8) : (l.map byteAV).all isU8 = true := by simp [List.all_map, byteAV, isU8]
theorem cells_byte (b : UInt8) : (byteAV b).cells = [byteAV b] := rfl
/-! ### functions that are handed in -/
def tbU8 (p : UInt8 → Bool) : List Blk → List AV → Option (List Blk × AV × Prop)
  | [], [.int .u8 b] => some ([], .bool (p (UInt8.ofNat b.toNat)), b = ((UInt8.ofNat b.toNat).toNat : Int))
  | _, _ => none
theorem tbU8_ok {P : Program} {f : FuncId} {p : UInt8 → Bool} (hs : ∀ c : UInt8, SpecE P f [] [enc_u8 c] [] (.bool (p c))) : ∀ E args E' res q, tbU8 p E args = some (E', res, q) → q → SpecE P f E args E' res := by
  intro E args E' res q h hq
  unfold tbU8 at h
  split at h
  · rename_i b
    simp only [Option.some.injEq, Prod.mk.injEq] at h
    obtain ⟨rfl, rfl, rfl⟩ := h
    have := hs (UInt8.ofNat b.toNat)
    unfold enc_u8 at this
    rw [← hq] at this
    exact this
  · cases h
def tbI32 (p : Int → Bool) : List Blk → List AV → Option (List Blk × AV × Prop)
  | [], [.int .i32 b] => some ([], .bool (p b), True)
  | _, _ => none
theorem tbI32_ok {P : Program} {f : FuncId} {p : Int → Bool} (hs : ∀ c : Int, SpecE P f [] [.int .i32 c] [] (.bool (p c))) : ∀ E args E' res q, tbI32 p E args = some (E', res, q) → q → SpecE P f E args E' res := by
  intro E args E' res q h hq
  unfold tbI32 at h
  split at h
  · simp only [Option.some.injEq, Prod.mk.injEq] at h
    obtain ⟨rfl, rfl, rfl⟩ := h
    exact hs _
  · cases h
def tbStr (p : List UInt8 → Bool) : List Blk → List AV → Option (List Blk × AV × Prop)
  | [], [.str b] => some ([], .bool (p b), True)
  | _, _ => none
theorem tbStr_ok {P : Program} {f : FuncId} {p : List UInt8 → Bool} (hs : ∀ c : List UInt8, SpecE P f [] [.str c] [] (.bool (p c))) : ∀ E args E' res q, tbStr p E args = some (E', res, q) → q → SpecE P f E args E' res := by
  intro E args E' res q h hq
  unfold tbStr at h
  split at h
  · simp only [Option.some.injEq, Prod.mk.injEq] at h
    obtain ⟨rfl, rfl, rfl⟩ := h
    exact hs _
  · cases h
/-! ### elements that hang on no block -/
theorem pidsL_map {α : Type} {f : α → AV} (h : ∀ x, pids (f x) = []) (l : List α) : pidsL (l.map f) = [] := by
  induction l with
  | nil => rfl
  | cons x r ih => simp [pidsL, h, ih]
theorem pidsL_append (a b : List AV) : pidsL (a ++ b) = pidsL a ++ pidsL b := by
  induction a with
  | nil => rfl
  | cons x r ih => simp [pidsL, ih]
theorem ren_map {α : Type} {f : α → AV} {σ : Nat → Nat} (h : ∀ x, ren σ (f x) = f x) (l : List α) : (l.map f).map (ren σ) = l.map f := by
  simp [List.map_map, Function.comp_def, h]

/-! the equations of the evaluator, as one set of the simplifier -/
theorem oneRef_mapT {α : Type} {f : α → AV} {l : List α} (h : (∀ x, refOf (f x) = none) = True) : oneRef (l.map f) = none := oneRef_map (of_eq_true h) l
theorem oneRef_appendT {α : Type} {f : α → AV} {l : List α} {b : List AV} (h : (∀ x, refOf (f x) = none) = True) (hb : (oneRef b = none) = True) : oneRef (l.map f ++ b) = none := oneRef_append (of_eq_true h) l b (of_eq_true hb)
theorem oneRef_repT {n : Nat} {v : AV} (h : (refOf v = none) = True) : oneRef (List.replicate n v) = none := oneRef_replicate n v (of_eq_true h)
theorem pidsL_mapT {α : Type} {f : α → AV} {l : List α} (h : (∀ x, pids (f x) = []) = True) : pidsL (l.map f) = [] := pidsL_map (of_eq_true h) l
theorem ren_mapT {α : Type} {f : α → AV} {σ : Nat → Nat} {l : List α} (h : (∀ x, ren σ (f x) = f x) = True) : (l.map f).map (ren σ) = l.map f := ren_map (of_eq_true h) l
theorem pureEl_mapT {α : Type} {f : α → AV} {l : List α} (h : (∀ x, pureBL (f x).cells = true) = True) : pureEl (l.map f) = true := pureEl_map f l (of_eq_true h)
attribute [go_sem] V_scope V_goto isBlk_list isBlk_radr isBlk_clist isBlk_cradr loadH_sl loadH_len WeakS_nil WeakS_cons swapB St.swap swapN kinvS_normal kinvS_exit kinvS_ret roB contE contX_some contX_none refE_one oneRef_nil oneRef_cons oneRef2_nil oneRef2_none oneRef_mapT oneRef_appendT oneRef_repT refOf_any refOf_bool refOf_int refOf_str refOf_agg refOf_tuple refOf_list refOf_nils refOf_nil0 refOf_nilp refOf_nili refOf_nilf refOf_yld refOf_ptr refOf_it refOf_clo refOf_cond refOf_radr refOf_ref slotE pidsL_mapT ren_mapT pureEl_mapT es_copy es_clear efCopy efClear V_range vr3_none vr3_ret vr3_exit vr2_some vr1b_some vr1_clo enterL YA_normal YB YF YG setP FinEM FinEvM St.del delL renS idsOKS pidsS efAppN loopId defId dN yldF List.range_zero V_skip V_label V_regF V_regT V_seq V_cond V_block V_loop V_exit V_ret kseq_normal kseq_exit kseq_ret kblk_normal kblk_exit kblk_ret kinv_normal kinv_exit kinv_ret VO_nil VO_cons VD_nil VD_cons sameH_nil sameH_cons loadH_nil loadH_call callNF callN1 callN2 noL loadH_load loadH_ia isBlk_ptr isBlk_ref isBlk_cptr isBlk_cref codesOf_nil codesOf_cons VP_none VPQ_none VP_some VPQ_some WeakE noAnyT subTE subBE blkE extsOK stepP_some stepQ_some grdP_nil grdP_cons grdP_none grdQ_nil grdQ_none cndP_bool cndP_own serP_true serP_false wrapP_some wrapE_some wrapP_none wrapE_none orR_some orR_none es_move es_assign es_pick es_binOp es_unOp es_index es_field es_fieldAddr es_extract es_build es_nilCheck es_makeFunc es_max es_min es_load es_indexAddr es_slice es_convert es_len es_alloc es_box es_buildSlice es_makeSlice es_store es_range es_next es_append es_call guardE evPure evRead evEff evCall evCallP evPick evNilCheck evBuiltin evBin evUn evConv evExtract evIndex evField evFieldAddr evIndexAddr evSlice evLen evMax evMin evBuild boundA unO idOf rdLen rdIndexAddr rdSlice rdLoad rdLoad0 norm1 norm1_ptr0 rdText efStore arrT efBoxed boxC efBuildSlice efMake efBytes elemsA efRange efNext srcA srcT efAppend purA purL cel1_one Option.isSome_some AV.un AV.uc ucL opnds arithV arithP St.ev St.get St.lk St.put St.upd lkA lkB AV.ofVal St.init argT extB scal ren renL renB sig newBlks marks freshIds deadId addT nilT setAt fillA placesL AV.cells FinR FinS noAny subP resR slotE inR isBoolT AV.flat AV.shaped AV.one one1 oneT c0 c1 c2 c3 idsOK idsOKL evCall1 evCallH pids pidsL mids midsL hasId allIds blkIds reach idxOf sigH handE hpL keptOK sameBlks apartIds noDup orT_some orT_none FinE FinEv sigX okX argOK enc_u8 dec_u8 enc_strs dec_strs enc_ints dec_ints enc_bytes dec_bytes toStr toInt listOf map_str_toStr map_int_toInt map_byte_toByte dec_u8_byte pidsL_append pidsL_map ren_map call1a call1b call1c reachI handE1 hpArg hpJoin kept1 callHa callHb callHi orH_some orH_none evBinX evBinS evBinN listA evOwn evEqB evEqO evEqOp otherA evEq evEqS evEqF fldA eqInt eqBool eqStr eqPtr eqSl eqFn seqU_none seqU_some fstR kcut_normal kcut_exit kcut_ret isT_true gimp_T gimp_t gimp_f gimp_and gimp_isT gimp_gimp gimp_impB impB_self impB_T impB_t impB_f impB_and impB_l impB_r impB_nl impB_nr getD_map_str getD_map_int getD_map_byte pureEl_str pureEl_int pureEl_byte contOK_pure allU8_byte cells_byte byteAV pureEl_nil pureEl_cons pureEl_append contOK_ids pureBL AV.pureB u8_lit u8_inj tbU8 tbI32 tbStr toByte isU8 range_1 range_2 range_3 range_4 range_5 range_6 range_7 range_8 toNat_add2 toNat_sub1 toNat_add toNat_lit maxInt take_min min_ge min_le_l take_map drop_map List.map_cons List.map_nil List.map_toArray List.toList_toArray List.cons_append List.nil_append List.append_nil List.append_assoc Option.toList_some Option.toList_none List.getElem?_cons_zero List.getElem?_cons_succ List.getElem?_toArray List.size_toArray List.length_cons List.length_nil Option.getD_some Option.getD_none true_and and_true implies_true forall_const if_true if_false ite_true ite_false Bool.true_and Bool.and_true Bool.false_and Bool.and_false beq_self_eq_true beq_true beq_false imp_self false_implies and_self Bool.true_beq Bool.false_beq ne_eq not_false_eq_true Int.toNat_natCast ite_self Int.cast_ofNat_Int not_true_eq_false Int.le_refl UInt8.ofNat_toNat List.contains_nil List.contains_cons List.length_map Function.comp eq_self cond_true cond_false Bool.not_true Bool.not_false Bool.true_eq_false Bool.false_eq_true Bool.and_eq_true Bool.not_eq_true' Bool.not_eq_false' Bool.not_not and_imp List.take_succ_cons List.take_zero List.drop_succ_cons List.drop_zero List.mem_cons List.not_mem_nil forall_eq_or_imp or_false forall_eq false_or List.all_cons List.all_nil List.replicate_succ List.replicate_zero List.mem_nil_iff Option.map_some Option.map_none List.flatMap_cons List.flatMap_nil Bool.true_or Bool.or_true Bool.false_or Bool.or_false List.set_cons_zero List.set_cons_succ List.getD_cons_zero List.getD_cons_succ Bool.cond_true_left Bool.cond_false_right Bool.or_eq_true Bool.or_eq_false_iff decide_eq_true_eq decide_eq_false_iff_not Int.not_lt Int.not_le
end Go.Abs
