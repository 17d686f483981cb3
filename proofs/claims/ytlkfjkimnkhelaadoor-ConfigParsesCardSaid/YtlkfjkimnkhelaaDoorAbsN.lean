/- One operation, and a region in the text's order. No condition. -/
import Derived.Test.YtlkfjkimnkhelaaDoorAbsL
import Derived.Still
set_option linter.unusedVariables false
set_option linter.unusedSimpArgs false
namespace Go.Abs

/-- Whether an operation is carried out, by its guard. -/
def guardE (st : St) (all : List Oper) : Option (Nat × Bool) → Option Bool
  | none => some true
  | some (j, want) =>
    match all[j]? with
    | some o => match o.dst with
      | some d => match st.get d with
        | .cond e (.bool b) => some (e && (b == want))
        | .bool b => some (b == want)
        | _ => none
      | none => none
    | none => none

def Stuck (o : Oper) : Prop := False

/-- An operation's outcome: what its slot holds, and the blocks that it turns. -/
inductive StepA (P : Program) (C : Tbl) (wr : Bool) (all : List Oper) (o : Oper) (st : St) : AV → List (Nat × Blk) → Prop
  | plain (v : AV) (u : List (Nat × Blk)) (p : Prop) (hg : o.guard = none) (h : evStep P C wr st.lk o.dst st.ev o.op = some (v, u, p)) (hp : p) (hu : ucL st.ev (opnds o.op)) : StepA P C wr all o st v u
  | yes (v : AV) (u : List (Nat × Blk)) (p : Prop) (g : Nat × Bool) (hg : o.guard = some g) (he : guardE st all (some g) = some true) (h : evStep P C wr st.lk o.dst st.ev o.op = some (v, u, p)) (hp : p)
      (hu : ucL st.ev (opnds o.op)) : StepA P C wr all o st (.cond true v) u
  | no (v : AV) (g : Nat × Bool) (hg : o.guard = some g) (he : guardE st all (some g) = some false) : StepA P C wr all o st (.cond false v) []

/-- One operation, then the rest. -/
def Wop (P : Program) (C : Tbl) (wr : Bool) (all : List Oper) (o : Oper) (st : St) (K : St → Prop) : Prop :=
  match o.guard with
  | none => match evStep P C wr st.lk o.dst st.ev o.op with
    | some (v, u, p) => ucL st.ev (opnds o.op) ∧ p ∧ K ((st.upd u).put o.dst v)
    | none => Stuck o
  | some g => match guardE st all (some g) with
    | some e => match evStep P C wr st.lk o.dst st.ev o.op with
      | some (v, [], p) => (e = true → ucL st.ev (opnds o.op) ∧ p) ∧ K (st.put o.dst (.cond e v))
      | some (v, u, p) => (e = true → ucL st.ev (opnds o.op) ∧ p ∧ K ((st.upd u).put o.dst (.cond true v))) ∧ (e = false → K (st.put o.dst (.cond false .any)))
      | none => e = false ∧ K (st.put o.dst (.cond false .any))
    | none => Stuck o

theorem upd_nil (st : St) : st.upd [] = st := rfl

theorem Wop.step {P C wr all o st K} (h : Wop P C wr all o st K) : ∃ v u, StepA P C wr all o st v u ∧ K ((st.upd u).put o.dst v) := by
  unfold Wop at h
  split at h
  · rename_i hg
    split at h
    · rename_i v u p he
      obtain ⟨h1, h2, h3⟩ := h
      exact ⟨v, u, .plain v u p hg he h2 h1, h3⟩
    · exact h.elim
  · rename_i g hg
    split at h
    · rename_i e hge
      split at h
      · rename_i v p he
        obtain ⟨h1, h2⟩ := h
        cases e with
        | true => obtain ⟨h3, h4⟩ := h1 rfl; exact ⟨_, [], .yes v [] p g hg hge he h4 h3, h2⟩
        | false => exact ⟨_, [], .no v g hg hge, h2⟩
      · rename_i v u p hne he
        obtain ⟨h1, h2⟩ := h
        cases e with
        | true => obtain ⟨h3, h4, h5⟩ := h1 rfl; exact ⟨_, u, .yes v u p g hg hge he h4 h3, h5⟩
        | false => exact ⟨_, [], .no .any g hg hge, h2 rfl⟩
      · obtain ⟨h1, h2⟩ := h
        subst h1
        exact ⟨_, [], .no .any g hg hge, h2⟩
    · exact h.elim

section
variable {P : Program} {C : Tbl} {wr : Bool} {N : Nat} {L0 : Nat → Option Blk} {φ0 : Nat → Option Nat} {ok0 : Nat → Nat → Prop} {w0 : World} {st : St} {ok : Nat → Nat → Prop} {φ : Nat → Option Nat}
  {a : Act} {w : World} {o : Oper}

variable {F : Fence} {n : Nat}
theorem Good.fn (h : Good F) (f : FuncId) : F.fn f := by
  rcases h with rfl | ⟨l, rfl⟩ <;> trivial
theorem Good.deep (h : Good F) : F.depth.isSome = true → 1 ≤ n := by
  rcases h with rfl | ⟨l, rfl⟩ <;> exact fun h => by simp [Fence.wide] at h
theorem Good.calls (h : Good F) {f : FuncId} {args : Array Value} {w : World} {Q : Ending → World → Prop} (hc : Calls P f args w Q) : CallsIn F n P f args w Q := by
  rcases h with rfl | ⟨l, rfl⟩
  · exact callsIn_wide.2 hc
  · exact CallsIn.inRound l (callsIn_wide.2 hc)
theorem semAt_plain {r : Option Nat} {o : Oper} {ρ : Operand → Value} (h : ∀ c, o.op ≠ .defer c) : o.semAt r ρ = execOp ρ o := by
  cases r with
  | none => exact Oper.semAt_none ..
  | some l => exact Oper.semAt_some l ρ o h
theorem evStep_defer {L : Nat → Option Blk} {dst : Option Nat} {ρ : Operand → AV} {c : Call} : evStep P C wr L dst ρ (.defer c) = none := rfl

theorem CallsX.upon (hF : Good F) {f : FuncId} {vs : List Value} {Q1 : Ending → World → Prop} {next : Act → World → Prop} {Q : Exit → Act → World → Prop} (h : CallsX P f vs w Q1)
    (hQ : ∀ e w', Q1 e w' → ∃ v, e = .returned v ∧ next (a.put o.dst v) w') : o.uponIn F n P a next Q ((InvF f vs).run P w) := by
  obtain ⟨nx, w', h1, h2⟩ := h
  rw [h1]
  cases nx with
  | enter g args =>
    refine ⟨hF.deep, (hF.calls h2).mono ?_⟩
    intro e w'' he
    obtain ⟨v, rfl, hv⟩ := hQ e w'' he
    exact hv
  | value v =>
    obtain ⟨v', he, hv⟩ := hQ _ _ h2
    cases he
    exact hv
  | round l g tmps assign body =>
    refine ⟨hF.deep, (h2 F hF (n - 1)).mono ?_⟩
    intro e w'' he
    obtain ⟨v, rfl, hv⟩ := hQ e w'' he
    exact hv
  | _ => exact h2.elim

theorem Sim.upd0 (h : Sim N L0 φ0 ok0 w0 st ok φ a w) {dst : Option Nat} (hd : dstOK N dst = true) {v' : AV} {v : Value} (hv : R w ok st.lk φ v' v) :
    Sim N L0 φ0 ok0 w0 (st.put dst v') ok φ (a.put dst v) w := by
  have := h.put (u := []) hd (Ext.refl h.heap) hv
  simpa [upd_nil] using this

theorem evStep_wp (hF : Good F) {v' : AV} {u : List (Nat × Blk)} {p : Prop} (hC : TblOK P C) (h : Sim N L0 φ0 ok0 w0 st ok φ a w) (hd : dstOK N o.dst = true)
    (ho : evStep P C wr st.lk o.dst st.ev o.op = some (v', u, p)) (hp : p) (hu : ucL st.ev (opnds o.op)) {next : Act → World → Prop} {Q : Exit → Act → World → Prop} (vw : AV → AV)
    (hvw : ∀ w' ok' φ' v, R w' ok' (st.upd u).lk φ' v' v → R w' ok' (st.upd u).lk φ' (vw v') v)
    (hn : ∀ ok' φ' a' w', Sim N L0 φ0 ok0 w0 ((st.upd u).put o.dst (vw v')) ok' φ' a' w' → next a' w') : o.wpIn F n P a w next Q := by
  have hR : ∀ x, R w ok st.lk φ (st.ev x) (a.eval x) := h.ev
  refine ⟨fun f _ => hF.fn f, ?_⟩
  rw [semAt_plain (fun c hc => by rw [hc, evStep_defer] at ho; cases ho)]
  unfold evStep at ho
  split at ho
  · rename_i v1 p1 he
    simp only [Option.some.injEq, Prod.mk.injEq] at ho
    obtain ⟨rfl, rfl, rfl⟩ := ho
    obtain ⟨v, h1, h2⟩ := evPure_ok h.heap he hp hR hu
    rw [h1]
    exact hn _ _ _ _ (h.put hd (Ext.refl h.heap) (hvw _ _ _ _ h2))
  · split at ho
    · rename_i v1 p1 he
      simp only [Option.some.injEq, Prod.mk.injEq] at ho
      obtain ⟨rfl, rfl, rfl⟩ := ho
      obtain ⟨v, h1, h2⟩ := evRead_ok he hp h.heap hR hu
      rw [h1]
      exact hn _ _ _ _ (h.put hd (Ext.refl h.heap) (hvw _ _ _ _ h2))
    · split at ho
      · rename_i v1 i1 b1 p1 he
        simp only [Option.some.injEq, Prod.mk.injEq] at ho
        obtain ⟨rfl, rfl, rfl⟩ := ho
        obtain ⟨n, v, w', φ', h1, h2, h3, h4⟩ := evEff_ok (w0 := w0) (X := fun b => ∃ i, φ0 i = some b) he hp h.heap h.frame.size hR hu
        rw [h1]
        have e : (st.upd [(i1, b1)]).lk = updL st.lk i1 b1 := lk_upd1 st i1 b1
        rw [← e] at h3 h4
        rcases h2 with rfl | ⟨rfl, rfl⟩
        · exact hn _ _ _ _ (h.put hd h3 (hvw _ _ _ _ h4))
        · exact hn _ _ _ _ (h.put hd h3 (hvw _ _ _ _ h4))
      · -- a call
        unfold evCall at ho
        split at ho
        · rename_i g args ats hop
          split at ho
          · rename_i f k cs hg
            split at ho
            · cases ho
            rename_i hyl
            have hgr := (hR g).un ((ucL_mem hu) g (by simp [opnds, hop]))
            rw [hg] at hgr
            obtain ⟨us, hgv, hul, hur⟩ : ∃ us : List Value, a.eval g = .func (.func f) (us.take k).toArray (us.drop k).toArray ∧ us.length = cs.length ∧ (∀ (i : Nat) (x : AV) (v : Value), cs[i]? = some x → us[i]? = some v → R w ok st.lk φ x v) := by
              generalize a.eval g = gv at hgr
              cases hgr with
              | pure _ _ h => cases h with | clo _ _ _ us hl h => exact ⟨us, rfl, hl, fun i x v hx hv => .pure _ _ (h i x v hx hv)⟩
              | clo _ _ _ us hl h => exact ⟨us, rfl, hl, h⟩
            have hcalls := evCallP_ok (w0 := w0) (X := fun b => ∃ i, φ0 i = some b) (vs := us.take k ++ (args.toList.map a.eval ++ us.drop k)) hC (L := st.lk) (Lst := st.L) rfl ho hp h.heap (by simp [hul]) (fun i x v hx hv => by
              rw [List.getElem?_append] at hx hv
              have hlen : (us.take k).length = (cs.take k).length := by simp [hul]
              rw [hlen] at hv
              split at hx
              · rename_i hlt
                rw [if_pos hlt] at hv
                rw [List.getElem?_take] at hx hv
                split at hx
                · rename_i hk
                  rw [if_pos hk] at hv
                  exact hur _ _ _ hx hv
                · simp at hx
              rename_i hge
              rw [if_neg hge] at hv
              rw [List.getElem?_append] at hx hv
              simp only [List.length_map] at hx hv
              split at hx
              · rename_i hlt
                rw [if_pos hlt] at hv
                simp only [List.getElem?_map, Option.map_eq_some_iff] at hx hv
                obtain ⟨y, hy, rfl⟩ := hx
                obtain ⟨z, hz, rfl⟩ := hv
                rw [hy] at hz; cases hz
                exact (hR y).un ((ucL_mem hu) y (by simp only [opnds, hop, List.mem_append]; exact .inr (List.mem_of_getElem? hy)))
              · rename_i hlt
                rw [if_neg hlt] at hv
                rw [List.getElem?_drop] at hx hv
                exact hur _ _ _ hx hv)
            have hrun : (execOp a.eval o).run P w = (InvF f (us.take k ++ (args.toList.map a.eval ++ us.drop k))).run P w := by
              have e1 : (us.take k).toArray ++ (args.map a.eval) ++ (us.drop k).toArray = (us.take k ++ (args.toList.map a.eval ++ us.drop k)).toArray := by apply Array.ext'; simp
              simp only [execOp, hop, resolve, hgv, Deferred.ofValue, Sem.run_bind, Sem.run_pure, Result.andThen_ok, invoke, Array.empty_append]
              rw [e1]
              simp only [InvF, if_neg hyl]
            rw [hrun]
            refine hcalls.upon hF ?_
            rintro e w' ⟨v, ok', φ', rfl, h3, h4⟩
            exact ⟨v, rfl, hn _ _ _ _ (h.put hd h3 (hvw _ _ _ _ h4))⟩
          · rename_i id' hg
            have hgr := (hR g).un ((ucL_mem hu) g (by simp [opnds, hop]))
            rw [hg] at hgr
            obtain ⟨b, hgv⟩ : ∃ b, a.eval g = .func (.yield b) #[] #[] := by
              generalize a.eval g = gv at hgr
              cases hgr with
              | pure _ _ h => cases h
              | yld _ _ _ _ _ b => exact ⟨b, rfl⟩
            have hcalls := evCallP_ok (w0 := w0) (X := fun b => ∃ i, φ0 i = some b) (vs := a.eval g :: args.toList.map a.eval) hC (L := st.lk) (Lst := st.L) rfl ho hp h.heap (by simp) (fun i x v hx hv => by
              cases i with
              | zero => simp at hx hv; subst hx; subst hv; exact hgr
              | succ i =>
                simp only [List.getElem?_cons_succ, List.getElem?_map, Option.map_eq_some_iff] at hx hv
                obtain ⟨y, hy, rfl⟩ := hx
                obtain ⟨z, hz, rfl⟩ := hv
                rw [hy] at hz; cases hz
                exact (hR y).un ((ucL_mem hu) y (by simp only [opnds, hop, List.mem_append]; exact .inr (List.mem_of_getElem? hy))))
            have hrun : (execOp a.eval o).run P w = (InvF yldF (a.eval g :: args.toList.map a.eval)).run P w := by
              have e1 : (args.map a.eval) = (args.toList.map a.eval).toArray := by apply Array.ext'; simp
              simp only [execOp, hop, resolve, hgv, Deferred.ofValue, Sem.run_bind, Sem.run_pure, Result.andThen_ok, invoke, Array.empty_append, Array.append_empty]
              rw [e1]
              simp only [InvF, if_true]
            rw [hrun]
            refine hcalls.upon hF ?_
            rintro e w' ⟨v, ok', φ', rfl, h3, h4⟩
            exact ⟨v, rfl, hn _ _ _ _ (h.put hd h3 (hvw _ _ _ _ h4))⟩
          · simp at ho
        · simp at ho

/-- Whether the guard asks for it: the machine and the evaluator agree. -/
theorem guardE_ok {all : List Oper} {g : Nat × Bool} {e : Bool} (h : Sim N L0 φ0 ok0 w0 st ok φ a w) (hg : o.guard = some g) (he : guardE st all (some g) = some e) {ops : Array Oper} (hall : ops.toList = all) :
    Region.wanted o (yielded ops a.tmps) = e := by
  obtain ⟨j, want⟩ := g
  simp only [guardE] at he
  split at he
  · rename_i oj hj
    split at he
    · rename_i d hd
      have hj' : ops[j]? = some oj := by rw [← hall] at hj; simpa using hj
      have hslot := h.slots d
      have key : ∀ v, a.tmps.getD d undef = v → v ≠ undef → a.tmps[d]? = some v := by
        intro v hv hne
        by_cases hlt : d < a.tmps.size
        · simp [Array.getD, hlt] at hv
          simp [hlt, hv]
        · simp [Array.getD, hlt] at hv
          exact absurd hv.symm hne
      split at he
      · rename_i e1 b hst
        simp only [Option.some.injEq] at he
        rw [hst] at hslot
        cases e1 with
        | true =>
          have hb := (hslot.un rfl).boolInv
          have := key _ hb (by simp [undef])
          simp [Region.wanted, hg, yielded, hj', hd, this, ← he]
        | false =>
          have hv : a.tmps.getD d undef = undef := by
            generalize a.tmps.getD d undef = vv at hslot
            cases hslot with | pure _ _ h => cases h; rfl
          have hno : ∀ b : Bool, a.tmps[d]? ≠ some (.bool b) := by
            intro b hb
            have hlt := (Array.getElem?_eq_some_iff.1 hb).1
            have : a.tmps.getD d undef = .bool b := by simp [Array.getD, hlt]; have := (Array.getElem?_eq_some_iff.1 hb).2; exact this
            rw [hv] at this; simp [undef] at this
          have hy : yielded ops a.tmps j = none := by
            simp only [yielded, hj', hd, Option.bind_some]
          simp only [Region.wanted, hg, hy, ← he, Bool.false_and]
          try rfl
      · rename_i b hst
        simp only [Option.some.injEq] at he
        rw [hst] at hslot
        have hb := hslot.boolInv
        have := key _ hb (by simp [undef])
        simp [Region.wanted, hg, yielded, hj', hd, this, ← he]
      · simp at he
    · simp at he
  · simp at he

/-- One operation of the machine follows the evaluator's. -/
theorem StepA.wpOp (hF : Good F) {all : List Oper} {v : AV} {u : List (Nat × Blk)} (hC : TblOK P C) (h : Sim N L0 φ0 ok0 w0 st ok φ a w) (hd : dstOK N o.dst = true) (hs : StepA P C wr all o st v u)
    {ops : Array Oper} (hall : ops.toList = all) {next : Act → World → Prop} {Q : Exit → Act → World → Prop}
    (hn : ∀ ok' φ' a' w', Sim N L0 φ0 ok0 w0 ((st.upd u).put o.dst v) ok' φ' a' w' → next a' w') :
    if Region.wanted o (yielded ops a.tmps) then o.wpIn F n P a w next Q else (∀ f, o.about P w a.eval = some f → F.fn f) ∧ next (a.put o.dst undef) w := by
  cases hs with
  | plain _ _ p hg he hp hu =>
    rw [if_pos (by simp [Region.wanted, hg])]
    exact evStep_wp hF hC h hd he hp hu id (fun _ _ _ _ h => h) hn
  | yes v _ p g hg hge he hp hu =>
    rw [guardE_ok h hg hge hall, if_pos rfl]
    exact evStep_wp hF hC h hd he hp hu (AV.cond true) (fun _ _ _ _ h => .condT _ _ h) hn
  | no v g hg hge =>
    rw [guardE_ok h hg hge hall, if_neg (by simp)]
    exact ⟨fun f _ => hF.fn f, hn _ _ _ _ (h.upd0 hd (.pure _ _ (.condF v)))⟩

/-! ### a region in the text's order -/
def Wops (P : Program) (C : Tbl) (wr : Bool) (all : List Oper) : List Oper → St → (St → Prop) → Prop
  | [], st, Q => Q st
  | o :: r, st, Q => Wop P C wr all o st fun st' => Wops P C wr all r st' Q

def dstsOK (N : Nat) (ops : List Oper) : Bool := ops.all fun o => dstOK N o.dst

theorem Wops.wpList (hF : Good F) {all : List Oper} {ops : Array Oper} (hall : ops.toList = all) (hC : TblOK P C) {Q : St → Prop} {Q' : Exit → Act → World → Prop} : ∀ (l : List Oper) (st : St) (ok : Nat → Nat → Prop) (φ : Nat → Option Nat) (a : Act) (w : World),
    dstsOK N l = true → Wops P C wr all l st Q → Sim N L0 φ0 ok0 w0 st ok φ a w → (∀ st' ok' φ' a' w', Q st' → Sim N L0 φ0 ok0 w0 st' ok' φ' a' w' → Q' .normal a' w') → wpListIn F n P ops Q' l a w
  | [], st, ok, φ, a, w, _, hW, hS, hQ => hQ _ _ _ _ _ hW hS
  | o :: r, st, ok, φ, a, w, hd, hW, hS, hQ => by
    simp only [dstsOK, List.all_cons, Bool.and_eq_true] at hd
    obtain ⟨v, u, h1, h2⟩ := Wop.step hW
    refine wpListIn_step fun K hK => h1.wpOp hF hC hS hd.1 hall fun ok' φ' a' w' hS' => hK _ _ ?_
    exact Wops.wpList hF hall hC r _ ok' φ' a' w' hd.2 h2 hS' hQ
end
end Go.Abs
set_option linter.unusedVariables false
set_option linter.unusedSimpArgs false
namespace Go.Abs

/-- Operations that neither read nor write blocks. -/
def isStrT (P : Program) (t : TypeId) : Bool := match P.underlying t with | some .string => true | _ => false
def isArrT (P : Program) (t : TypeId) : Bool := match P.underlying t with | some (.array ..) => true | _ => false
def clsN (P : Program) : Op → Bool
  | .move _ | .assign _ | .pick .. | .binOp .. | .unOp .. | .index .. | .field .. | .fieldAddr .. | .extract .. | .build .. | .makeFunc .. | .nilCheck _ => true
  | .call { callee := .builtin .max, .. } | .call { callee := .builtin .min, .. } => true
  | .call { callee := .builtin .len, argTypes, .. } => match argTypes.toList with | [t] => isStrT P t | _ => false
  | .slice t _ lo hi mx => isStrT P t || (isArrT P t && (lo.isNone && (hi.isNone && mx.isNone)))
  | _ => false

theorem rdSlice_str {P L t x lo hi mx} (h : isStrT P t = true) : rdSlice P L t x lo hi mx = none := by
  unfold isStrT at h
  split at h
  · rename_i hu
    unfold rdSlice
    split <;> simp [hu]
  · cases h
theorem rdSlice_arr {P L t x} (h : isArrT P t = true) : rdSlice P L t x none none none = none := by
  unfold isArrT at h
  split at h
  · rename_i hu
    unfold rdSlice
    split
    · simp [hu]
    · simp only [hu]
      split <;> simp_all
    · rfl
  · cases h
theorem rdLen_str {P L t x} (h : isStrT P t = true) : rdLen P L t x = none := by
  unfold isStrT at h
  split at h
  · rename_i hu
    unfold rdLen
    split <;> simp [hu]
  · cases h
theorem clsN_step {P C wr L L' dst ρ op} (h : clsN P op = true) : evStep P C wr L dst ρ op = evStep P C wr L' dst ρ op := by
  cases op <;> try (simp [clsN] at h; done)
  case call c =>
    obtain ⟨cal, args, ats⟩ := c
    cases cal <;> try (simp [clsN] at h; done)
    rename_i b
    cases b <;> try (simp [clsN] at h; done)
    case len =>
      simp only [clsN] at h
      split at h
      · rename_i t ht
        simp only [evStep, evRead, evEff, evCall, ht]
        cases args.toList with
        | nil => simp
        | cons x r => cases r with
          | nil => simp [rdLen_str h]
          | cons y r => simp
      · cases h
    all_goals simp [evStep, evRead, evEff, evCall]
  case slice t x lo hi mx =>
    simp only [clsN, Bool.or_eq_true, Bool.and_eq_true, Option.isNone_iff_eq_none] at h
    rcases h with h | ⟨h, rfl, rfl, rfl⟩
    · simp [evStep, evRead, evEff, evCall, rdSlice_str h]
    · simp [evStep, evRead, evEff, evCall, unO, rdSlice_arr h]
  all_goals simp [evStep, evRead, evEff, evCall]

theorem clsN_nil {P C wr L dst ρ op v u p} (h : clsN P op = true) (he : evStep P C wr L dst ρ op = some (v, u, p)) : u = [] := by
  cases op <;> try (simp [clsN] at h; done)
  case call c =>
    obtain ⟨cal, args, ats⟩ := c
    cases cal <;> try (simp [clsN] at h; done)
    rename_i b
    cases b <;> try (simp [clsN] at h; done)
    case len =>
      simp only [evStep] at he
      split at he
      · simp at he; first | exact he.2.1 | exact he.2.1.symm
      · split at he
        · simp at he; first | exact he.2.1 | exact he.2.1.symm
        · simp [evEff, evCall] at he
    all_goals (simp only [evStep, evRead, evEff, evCall] at he; split at he <;> simp at he; first | exact he.2.1 | exact he.2.1.symm)
  case slice t x lo hi mx =>
    simp only [evStep] at he
    split at he
    · simp at he; first | exact he.2.1 | exact he.2.1.symm
    · split at he
      · simp at he; first | exact he.2.1 | exact he.2.1.symm
      · simp [evEff, evCall] at he
  all_goals (simp only [evStep, evRead, evEff, evCall] at he; split at he <;> simp at he; first | exact he.2.1 | exact he.2.1.symm)

theorem unO_congr {ρ ρ' : Operand → AV} {x : Option Operand} (h : ∀ y ∈ x.toList, ρ y = ρ' y) : unO ρ x = unO ρ' x := by
  cases x with
  | none => rfl
  | some y => simp [unO, h y (by simp)]

theorem evStep_congr {P C wr L dst} {ρ ρ' : Operand → AV} {op : Op} (h : ∀ x ∈ op.operands, ρ x = ρ' x) : evStep P C wr L dst ρ op = evStep P C wr L dst ρ' op := by
  have mapc : ∀ {α : Type} (f : AV → α) (l : List Operand), (∀ x ∈ l, ρ x = ρ' x) → (l.map fun x => f (ρ x)) = l.map fun x => f (ρ' x) := fun f l hl =>
    List.map_congr_left fun x hx => by rw [hl x hx]
  have pairs : ∀ ps : Array (Nat × Operand), (∀ x ∈ (ps.toList.map (·.2)), ρ x = ρ' x) → (ps.toList.map fun p => (p.1, (ρ p.2).un)) = ps.toList.map fun p => (p.1, (ρ' p.2).un) := fun ps hp =>
    List.map_congr_left fun p hm => by rw [hp p.2 (List.mem_map.2 ⟨p, hm, rfl⟩)]
  cases op <;> simp only [Op.operands] at h <;> try (simp [evStep, evPure, evRead, evEff, evCall]; done)
  case move x => simp [evStep, evPure, h x (by simp)]
  case assign x => simp [evStep, evPure, h x (by simp)]
  case pick c a b => simp [evStep, evPure, evRead, evEff, evCall, h c (by simp), h a (by simp), h b (by simp)]
  case box t x => simp [evStep, evPure, evRead, evEff, evCall, h x (by simp)]
  case build t ps => simp only [evStep, evPure, evRead, evEff, evCall]; rw [pairs ps fun x hx => h x (by simpa using hx)]
  case buildSlice t n ps => simp only [evStep, evPure, evRead, evEff, evCall]; rw [pairs ps fun x hx => h x (by simpa using hx)]
  case load t x => simp [evStep, evPure, evRead, evEff, evCall, h x (by simp)]
  case store t x y => simp [evStep, evPure, evRead, evEff, evCall, h x (by simp), h y (by simp)]
  case nilCheck x => simp [evStep, evPure, evRead, evEff, evCall, h x (by simp)]
  case binOp op t x y yt => simp [evStep, evPure, evRead, evEff, evCall, h x (by simp), h y (by simp)]
  case unOp op t x => simp [evStep, evPure, evRead, evEff, evCall, h x (by simp)]
  case convert s d x => simp [evStep, evPure, evRead, evEff, evCall, h x (by simp)]
  case makeFunc fn fst cs =>
    cases fn <;> simp only [evStep, evPure, evRead, evEff, evCall]
    rw [mapc AV.un (fst.toList ++ cs.toList) fun x hx => h x (by simpa [Array.mem_append] using hx)]
  case makeSlice t l c => simp [evStep, evPure, evRead, evEff, evCall, h l (by simp), h c (by simp)]
  case slice t x lo hi mx =>
    simp only [Array.mem_append] at h
    have h1 := unO_congr (x := lo) (fun y hy => h y (.inl (.inl (.inr (by cases lo <;> simp_all)))))
    have h2 := unO_congr (x := hi) (fun y hy => h y (.inl (.inr (by cases hi <;> simp_all))))
    have h3 := unO_congr (x := mx) (fun y hy => h y (.inr (by cases mx <;> simp_all)))
    simp [evStep, evPure, evRead, evEff, evCall, h x (.inl (.inl (.inl (by simp)))), h1, h2, h3]
  case fieldAddr t x f => simp [evStep, evPure, evRead, evEff, evCall, h x (by simp)]
  case field t x f => simp [evStep, evPure, evRead, evEff, evCall, h x (by simp)]
  case indexAddr t x i => simp [evStep, evPure, evRead, evEff, evCall, h x (by simp), h i (by simp)]
  case index t x i => simp [evStep, evPure, evRead, evEff, evCall, h x (by simp), h i (by simp)]
  case range t x => simp [evStep, evPure, evRead, evEff, evCall, h x (by simp)]
  case next x b => cases b <;> simp [evStep, evPure, evRead, evEff, evCall, h x (by simp)]
  case extract x i => simp [evStep, evPure, evRead, evEff, evCall, h x (by simp)]
  case call c =>
    obtain ⟨cal, args, ats⟩ := c
    simp only [Call.operands, Array.mem_append] at h
    have hargs : ∀ x ∈ args.toList, ρ x = ρ' x := fun x hx => h x (.inr (by simpa using hx))
    have hm := mapc AV.un args.toList hargs
    cases cal with
    | value g =>
      have hg := h g (.inl (by simp))
      simp [evStep, evPure, evRead, evEff, evCall, hg, hm]
    | invoke r m => simp [evStep, evPure, evRead, evEff, evCall]
    | builtin b =>
      have two : ∀ {x y}, args.toList = [x, y] → ρ x = ρ' x ∧ ρ y = ρ' y := fun e => ⟨hargs _ (by rw [e]; simp), hargs _ (by rw [e]; simp)⟩
      have one : ∀ {x}, args.toList = [x] → ρ x = ρ' x := fun e => hargs _ (by rw [e]; simp)
      have hr : evRead P L ρ (.call ⟨.builtin b, args, ats⟩) = evRead P L ρ' (.call ⟨.builtin b, args, ats⟩) := by
        cases b <;> simp only [evRead]
        split
        · rename_i t x ht hx; rw [one hx]
        · rfl
      have hef : evEff P L (idOf dst) ρ (.call ⟨.builtin b, args, ats⟩) = evEff P L (idOf dst) ρ' (.call ⟨.builtin b, args, ats⟩) := by
        cases b <;> simp only [evEff]
        case clear =>
          split
          · rename_i t x ht hx; rw [one hx]
          · rfl
        all_goals
          split
          · rename_i t u x y ht hx; rw [(two hx).1, (two hx).2]
          · rfl
      have hpu : evPure P wr ρ (.call ⟨.builtin b, args, ats⟩) = evPure P wr ρ' (.call ⟨.builtin b, args, ats⟩) := by simp only [evPure]; rw [hm]
      simp only [evStep, hr, hef, hpu, evCall]

/-! ### which operations wait for which -/
def bef1 (acc : List Nat) : List Edge → Nat
  | [] => 0
  | e :: r => bif Region.binds .any e then (2 ^ e.on ||| acc.getD e.on 0) ||| bef1 acc r else bef1 acc r
def befAll : List Oper → List Nat → List Nat
  | [], acc => acc
  | o :: r, acc => befAll r (acc ++ [bef1 acc o.after.toList])

theorem bef1_spec {acc : List Nat} {i : Nat} : ∀ {es : List Edge}, (bef1 acc es).testBit i = true → ∃ e ∈ es, Region.binds .any e = true ∧ (e.on = i ∨ (acc.getD e.on 0).testBit i = true)
  | [], h => by simp [bef1] at h
  | e :: r, h => by
    simp only [bef1] at h
    cases hb : Region.binds .any e with
    | false =>
      rw [hb] at h
      obtain ⟨x, h1, h2⟩ := bef1_spec h
      exact ⟨x, by simp [h1], h2⟩
    | true =>
      rw [hb] at h
      simp only [cond_true, Nat.testBit_or, Bool.or_eq_true, Nat.testBit_two_pow, decide_eq_true_eq] at h
      rcases h with (h | h) | h
      · exact ⟨e, by simp, hb, .inl h⟩
      · exact ⟨e, by simp, hb, .inr h⟩
      · obtain ⟨x, h1, h2⟩ := bef1_spec h
        exact ⟨x, by simp [h1], h2⟩

/-- acc tells of the first operations what they wait for. -/
def BefOK (ops : List Oper) (acc : List Nat) : Prop :=
  ∀ j i, j < acc.length → (acc.getD j 0).testBit i = true → ∃ oj, ops[j]? = some oj ∧ ∃ e ∈ oj.after.toList, Region.binds .any e = true ∧ (e.on = i ∨ (e.on < j ∧ (acc.getD e.on 0).testBit i = true))

theorem befAll_ok (ops : List Oper) (hord : ∀ j oj, ops[j]? = some oj → ∀ e ∈ oj.after.toList, Region.binds .any e = true → e.on < j) :
    ∀ (l : List Oper) (acc : List Nat), (∀ k, l[k]? = ops[acc.length + k]?) → BefOK ops acc → BefOK ops (befAll l acc) ∧ acc.length ≤ (befAll l acc).length
  | [], acc, _, h => ⟨h, Nat.le_refl _⟩
  | o :: r, acc, hl, h => by
    have h0 : ops[acc.length]? = some o := by simpa using (hl 0).symm
    have := befAll_ok ops hord r (acc ++ [bef1 acc o.after.toList]) (fun k => by
      have := hl (k + 1)
      simp only [List.getElem?_cons_succ] at this
      rw [this, List.length_append]
      simp only [List.length_cons, List.length_nil]
      congr 1; omega) (fun j i hj ht => by
        have hget : ∀ k, k < acc.length → (acc ++ [bef1 acc o.after.toList]).getD k 0 = acc.getD k 0 := fun k hk => by
          simp [List.getD_eq_getElem?_getD, List.getElem?_append_left hk]
        by_cases hlt : j < acc.length
        · rw [hget j hlt] at ht
          obtain ⟨oj, h1, e, h2, h3, h4⟩ := h j i hlt ht
          refine ⟨oj, h1, e, h2, h3, ?_⟩
          rcases h4 with h4 | ⟨h4, h5⟩
          · exact .inl h4
          · exact .inr ⟨h4, by rw [hget _ (by omega)]; exact h5⟩
        · have hj' : j = acc.length := by simp at hj; omega
          subst hj'
          have : (acc ++ [bef1 acc o.after.toList]).getD acc.length 0 = bef1 acc o.after.toList := by simp [List.getD_eq_getElem?_getD]
          rw [this] at ht
          obtain ⟨e, h1, h2, h3⟩ := bef1_spec ht
          refine ⟨o, h0, e, h1, h2, ?_⟩
          have hlt := hord _ _ h0 e h1 h2
          rcases h3 with h3 | h3
          · exact .inl h3
          · exact .inr ⟨hlt, by rw [hget _ hlt]; exact h3⟩)
    refine ⟨this.1, ?_⟩
    have h2 := this.2
    rw [List.length_append] at h2
    show acc.length ≤ (befAll r (acc ++ [bef1 acc o.after.toList])).length
    omega

/-! Codes of ser, (k + 1) * 10000 + B: the turning operation k does not touch the block B; the loading operation k looks into the block B alone. -/
def codesOf : List Nat → Nat → List Nat
  | [], _ => []
  | c :: r, k => match c / 10000 == k + 1 with
    | true => c % 10000 :: codesOf r k
    | false => codesOf r k
def loadOf : Op → Option Nat
  | .load _ (.tmp p) => some p
  | .indexAddr _ (.tmp p) _ => some p
  | .slice _ (.tmp p) _ _ _ => some p
  | .call ⟨.builtin .len, ⟨[.tmp p]⟩, _⟩ => some p
  | _ => none
/-- What is read by this value lies in the block B, or in no block of the call's own. -/
def onB (B : Nat) (v : AV) : Prop := match v.un with
  | .ptr id .. => id = B
  | .ref id .. => id = B
  | .list .. => True
  | .radr _ => True
  | _ => False
def sameAt (s t : St) : List Nat → Prop
  | [] => True
  | B :: r => s.lk B = t.lk B ∧ sameAt s t r
def noL : Nat → Option Blk := fun _ => none
def callN2 : Option (List Blk × AV × Prop) → Prop
  | some ([], res, _) => scal res = true
  | _ => False
def callN1 (C : Tbl) (f : FuncId) : Option (List AV × List Nat × Prop) → Prop
  | some (ys, [], _) => callN2 (C f [] ys)
  | _ => False
def callNF (C : Tbl) (xs : List AV) : AV → Prop
  | .clo f k cs => callN1 C f (purL noL (cs.take k ++ (xs ++ cs.drop k)))
  | _ => False
/-- A call that looks into no block and makes none. -/
def callN (C : Tbl) (st : St) : Op → Prop
  | .call { callee := .value g, args, .. } => callNF C (args.toList.map (fun x => (st.ev x).un)) (st.ev g).un
  | _ => False
def loadB (C : Tbl) (op : Op) (st : St) (B : Nat) : Prop := match loadOf op with
  | some p => onB B (st.get p)
  | none => callN C st op
def loadC (C : Tbl) (op : Op) (st : St) : List Nat → Prop
  | [] => True
  | B :: r => loadB C op st B ∧ loadC C op st r
mutual
theorem purA_no (L : Nat → Option Blk) : ∀ (a : AV) (x : AV × List Nat × Prop), purA noL a = some x → purA L a = some x
  | .agg cs, x, h => by
    simp only [purA] at h ⊢
    split at h
    · rename_i hc; rw [purL_no L cs _ hc]; exact h
    · cases h
  | .tuple cs, x, h => by
    simp only [purA] at h ⊢
    split at h
    · rename_i hc; rw [purL_no L cs _ hc]; exact h
    · cases h
  | .clo f k cs, x, h => by
    simp only [purA] at h ⊢
    split at h
    · rename_i hc; rw [purL_no L cs _ hc]; exact h
    · cases h
  | .cond e v, x, h => by
    simp only [purA] at h ⊢
    first
      | exact h
      | (split at h
         · rename_i hc; rw [purA_no L v _ hc]; exact h
         · cases h)
  | .ref .., x, h => by simp [purA, noL] at h
  | .ptr .., x, h => by simp [purA, noL] at h
  | .any, x, h | .bool _, x, h | .int .., x, h | .str _, x, h | .list .., x, h | .radr _, x, h | .nils, x, h | .nil0, x, h | .nilp, x, h | .nili, x, h | .nilf, x, h => h
  | .it _, x, h | .yld _, x, h | .nxt .., x, h | .own .., x, h => by simp only [purA] at h ⊢; exact h
theorem purL_no (L : Nat → Option Blk) : ∀ (l : List AV) (x : List AV × List Nat × Prop), purL noL l = some x → purL L l = some x
  | [], x, h => h
  | a :: r, x, h => by
    simp only [purL] at h ⊢
    split at h
    · rename_i h1 h2; rw [purA_no L a _ h1, purL_no L r _ h2]; exact h
    · cases h
end
theorem callN_congr {C : Tbl} {P wr L L' dst} {op : Op} {st : St} (h : callN C st op) : evStep P C wr L dst st.ev op = evStep P C wr L' dst st.ev op := by
  unfold callN at h
  split at h
  · rename_i g args ats
    have key : ∀ L, evStep P C wr L dst st.ev (.call ⟨.value g, args, ats⟩) = evCall C L (idOf dst) st.ev (.call ⟨.value g, args, ats⟩) := fun L => by simp only [evStep, evPure, evRead, evEff]
    rw [key, key]
    simp only [evCall]
    unfold callNF at h
    split at h
    · rename_i f k cs hg
      rw [hg]
      simp only
      split
      · rfl
      unfold callN1 at h
      split at h
      · rename_i ys q hp
        unfold callN2 at h
        split at h
        · rename_i res p hc
          have one : ∀ L, evCallP C L (idOf dst) f (cs.take k ++ (args.toList.map (fun x => (st.ev x).un) ++ cs.drop k)) = some (res, [], q ∧ p) := fun L => by
            have e := purL_no L _ _ hp
            simp only [evCallP, evCall1, e, call1a, hc, call1b, h, call1c, orH]
          rw [one L, one L']
        · exact h.elim
      · exact h.elim
    · exact h.elim
  · exact h.elim
theorem sameAt_mem {s t : St} : ∀ {l : List Nat}, sameAt s t l → ∀ B ∈ l, s.lk B = t.lk B
  | [], _, B, h => by cases h
  | x :: r, hs, B, h => by
    rcases List.mem_cons.1 h with rfl | h
    · exact hs.1
    · exact sameAt_mem hs.2 B h
theorem loadC_mem {C : Tbl} {op : Op} {st : St} : ∀ {l : List Nat}, loadC C op st l → ∀ B ∈ l, loadB C op st B
  | [], _, B, h => by cases h
  | x :: r, hs, B, h => by
    rcases List.mem_cons.1 h with rfl | h
    · exact hs.1
    · exact loadC_mem hs.2 B h
def shareB (ser : List Nat) (i j : Nat) : Bool := (codesOf ser i).any fun B => (codesOf ser j).contains B

theorem load_congr {P C wr L L' dst ρ op p B} (hl : loadOf op = some p) (hb : onB B (ρ (.tmp p))) (hL : L B = L' B) : evStep P C wr L dst ρ op = evStep P C wr L' dst ρ op := by
  unfold loadOf at hl
  split at hl
  · cases hl
    have : rdLoad P L ‹TypeId› (ρ (.tmp p)).un = rdLoad P L' ‹TypeId› (ρ (.tmp p)).un := by
      unfold onB at hb
      split at hb
      · rename_i he; cases hb; rw [he]; exact rdLoad_congr hL
      · rename_i he; cases hb; rw [he]; rfl
      · rename_i he; rw [he]; rfl
      · rename_i he; rw [he]; rfl
      · exact hb.elim
    simp only [evStep, evRead, this, evEff, evCall]
  · cases hl
    rename_i t i
    have : rdIndexAddr P L t (ρ (.tmp p)).un (ρ i).un = rdIndexAddr P L' t (ρ (.tmp p)).un (ρ i).un := by
      unfold onB at hb
      split at hb
      · rename_i he; cases hb; rw [he]
        unfold rdIndexAddr
        split <;> simp_all
      · rename_i he; cases hb; rw [he]
        unfold rdIndexAddr
        split <;> simp_all
      · rename_i he; rw [he]
        unfold rdIndexAddr
        split <;> simp_all
      · rename_i he; rw [he]
        unfold rdIndexAddr
        split <;> simp_all
      · exact hb.elim
    simp only [evStep, evRead, this, evEff, evCall]
  · cases hl
    rename_i t lo hi mx
    have : rdSlice P L t (ρ (.tmp p)).un (unO ρ lo) (unO ρ hi) (unO ρ mx) = rdSlice P L' t (ρ (.tmp p)).un (unO ρ lo) (unO ρ hi) (unO ρ mx) := by
      unfold onB at hb
      split at hb
      · rename_i he; cases hb; rw [he]
        unfold rdSlice
        split <;> simp_all
      · rename_i he; cases hb; rw [he]
        simp only [rdSlice, hL]
      · rename_i he; rw [he]; rfl
      · rename_i he; rw [he]; rfl
      · exact hb.elim
    simp only [evStep, evRead, this, evEff, evCall]
  · cases hl
    have : ∀ t, rdLen P L t (ρ (.tmp p)).un = rdLen P L' t (ρ (.tmp p)).un := fun t => by
      unfold onB at hb
      split at hb
      · rename_i he; rw [he]; rfl
      · rename_i he; cases hb; rw [he]; simp only [rdLen, hL]
      · rename_i he; rw [he]; rfl
      · rename_i he; rw [he]; rfl
      · exact hb.elim
    rename_i ats
    simp only [evStep, evRead, evEff, evCall]
    rcases ats.toList with _ | ⟨t, _ | ⟨t2, r⟩⟩ <;> simp [this]
  · cases hl

theorem loadB_step {P C wr L' dst op st B} (h : loadB C op st B) (hL : L' B = st.lk B) : evStep P C wr L' dst st.ev op = evStep P C wr st.lk dst st.ev op := by
  unfold loadB at h
  split at h
  · rename_i p hp
    exact load_congr hp h hL
  · exact callN_congr h
theorem loadB_same {C op s t B} (h : ∀ x ∈ op.operands, s.ev x = t.ev x) (hl : loadB C op s B) : loadB C op t B := by
  unfold loadB at hl ⊢
  cases hp : loadOf op with
  | some p =>
    rw [hp] at hl
    have h1 := h (.tmp p) (by unfold loadOf at hp; split at hp <;> cases hp <;> simp [Op.operands, Call.operands])
    have h2 : s.get p = t.get p := h1
    show onB B (t.get p)
    rw [← h2]; exact hl
  | none =>
    rw [hp] at hl
    show callN C t op
    replace hl : callN C s op := hl
    unfold callN at hl ⊢
    split at hl
    · rename_i g args ats
      simp only [Op.operands, Call.operands, Array.mem_append] at h
      have hg := h g (.inl (by simp))
      have hm : (args.toList.map fun x => (s.ev x).un) = args.toList.map fun x => (t.ev x).un := List.map_congr_left fun x hx => by rw [h x (.inr (by simpa using hx))]
      simp only [← hg, ← hm]; exact hl
    · exact hl.elim

/-- The Bool that a drawn region owes: whoever may come up beside an operation does not care for it. ser: the operations that may turn blocks. -/
def drawB (P : Program) (ops : List Oper) (ser : List Nat) : Bool :=
  let b := befAll ops []
  let n := ops.length
  Region.noSelect ops.toArray &&
  (List.range n).all fun j => match ops[j]? with
    | none => true
    | some oj => (oj.after.toList.all fun e => !Region.binds .any e || decide (e.on < j)) &&
      (List.range j).all fun i => (b.getD j 0).testBit i || match ops[i]? with
        | none => true
        | some oi => oi.apart ops.toArray oj && ((!ser.contains i || clsN P oj.op) && (!ser.contains j || clsN P oi.op) || ((ser.contains i != ser.contains j) && shareB ser i j))

/-- An operation that may turn no block. -/
def WopQ (P : Program) (C : Tbl) (wr : Bool) (all : List Oper) (o : Oper) (st : St) (K : St → Prop) : Prop :=
  match o.guard with
  | none => match evStep P C wr st.lk o.dst st.ev o.op with
    | some (v, [], p) => ucL st.ev (opnds o.op) ∧ p ∧ K (st.put o.dst v)
    | _ => Stuck o
  | some g => match guardE st all (some g) with
    | some e => match evStep P C wr st.lk o.dst st.ev o.op with
      | some (v, [], p) => (e = true → ucL st.ev (opnds o.op) ∧ p) ∧ K (st.put o.dst (.cond e v))
      | some _ => Stuck o
      | none => e = false ∧ K (st.put o.dst (.cond false .any))
    | none => Stuck o

theorem WopQ.step {P C wr all o st K} (h : WopQ P C wr all o st K) : ∃ v, StepA P C wr all o st v [] ∧ K (st.put o.dst v) := by
  unfold WopQ at h
  split at h
  · rename_i hg
    split at h
    · rename_i v p he
      obtain ⟨h1, h2, h3⟩ := h
      exact ⟨v, .plain v [] p hg he h2 h1, h3⟩
    · exact h.elim
  · rename_i g hg
    split at h
    · rename_i e hge
      split at h
      · rename_i v p he
        obtain ⟨h1, h2⟩ := h
        cases e with
        | true => obtain ⟨h3, h4⟩ := h1 rfl; exact ⟨_, .yes v [] p g hg hge he h4 h3, h2⟩
        | false => exact ⟨_, .no v g hg hge, h2⟩
      · exact h.elim
      · obtain ⟨h1, h2⟩ := h
        subst h1
        exact ⟨_, .no .any g hg hge, h2⟩
    · exact h.elim

def WopsD (P : Program) (C : Tbl) (wr : Bool) (all : List Oper) (ser : List Nat) : List Oper → Nat → St → (St → Prop) → Prop
  | [], _, st, Q => Q st
  | o :: r, k, st, Q =>
    match ser.contains k with
    | true => Wop P C wr all o st fun st' => sameAt st st' (codesOf ser k) ∧ WopsD P C wr all ser r (k + 1) st' Q
    | false => loadC C o.op st (codesOf ser k) ∧ WopQ P C wr all o st fun st' => WopsD P C wr all ser r (k + 1) st' Q

/-- The same state, but for the order in which it was written. -/
def StEq (s t : St) : Prop := s.get = t.get ∧ s.lk = t.lk
theorem StEq.refl (s : St) : StEq s s := ⟨rfl, rfl⟩
theorem StEq.ev {s t : St} (h : StEq s t) : s.ev = t.ev := by
  funext x; cases x <;> simp [St.ev, h.1]
theorem St.lk_upd (s : St) (u : List (Nat × Blk)) (j : Nat) : (s.upd u).lk j = match lkB u j with | some b => some b | none => s.lk j := by
  have : ∀ (u : List (Nat × Blk)) (l : List (Nat × Blk)), lkB (u ++ l) j = match lkB u j with | some b => some b | none => lkB l j := by
    intro u l
    induction u with
    | nil => simp [lkB]
    | cons x u ih => simp only [List.cons_append, lkB]; split <;> simp_all
  exact this u s.L
theorem St.lk_put (s : St) (d : Option Nat) (v : AV) : (s.put d v).lk = s.lk := by cases d <;> rfl
theorem St.get_upd (s : St) (u : List (Nat × Blk)) : (s.upd u).get = s.get := rfl
theorem St.get_put (s : St) (d : Option Nat) (v : AV) (t : Nat) : (s.put d v).get t = if d = some t then v else s.get t := by
  cases d with
  | none => simp [St.put]
  | some d => simp only [St.put, St.get, lkA, Option.some.injEq]
theorem StEq.next {s t : St} (h : StEq s t) (u : List (Nat × Blk)) (d : Option Nat) (v : AV) : StEq ((s.upd u).put d v) ((t.upd u).put d v) := by
  refine ⟨?_, ?_⟩
  · funext k; rw [St.get_put, St.get_put, St.get_upd, St.get_upd, h.1]
  · rw [St.lk_put, St.lk_put]; funext j; rw [St.lk_upd, St.lk_upd, h.2]

section
variable {P : Program} {C : Tbl} {wr : Bool} {ops : Array Oper} {ser : List Nat}

theorem guardE_eq {s t : St} {all : List Oper} (h : s.get = t.get) (g : Option (Nat × Bool)) : guardE s all g = guardE t all g := by
  cases g with
  | none => rfl
  | some x => simp only [guardE, h]

theorem StepA.eq {all o s t v u} (h : StEq s t) (hs : StepA P C wr all o s v u) : StepA P C wr all o t v u := by
  have e1 := h.ev
  cases hs with
  | plain _ _ p hg he hp hu => exact .plain v u p hg (by rw [← h.2, ← e1]; exact he) hp (by rw [← e1]; exact hu)
  | yes v _ p g hg hge he hp hu => exact .yes v u p g hg (by rw [← guardE_eq h.1]; exact hge) (by rw [← h.2, ← e1]; exact he) hp (by rw [← e1]; exact hu)
  | no v g hg hge => exact .no v g hg (by rw [← guardE_eq h.1]; exact hge)

/-- What an operation that comes up keeps, by the codes. -/
def Chk (C : Tbl) (ser : List Nat) (i : Nat) (o : Oper) (st : St) (u : List (Nat × Blk)) : Prop :=
  (ser.contains i = false → u = []) ∧ (ser.contains i = true → ∀ B ∈ codesOf ser i, (st.upd u).lk B = st.lk B) ∧
  (ser.contains i = false → ∀ B ∈ codesOf ser i, loadB C o.op st B)
theorem Chk.eq {i o s t u} (h : StEq s t) (hc : Chk C ser i o s u) : Chk C ser i o t u := by
  refine ⟨hc.1, fun hs B hB => ?_, fun hs B hB => ?_⟩
  · have := hc.2.1 hs B hB
    rw [St.lk_upd, ← h.2, ← St.lk_upd]; exact this
  · exact loadB_same (fun x _ => by rw [h.ev]) (hc.2.2 hs B hB)

def AnyA (P : Program) (C : Tbl) (wr : Bool) (ops : Array Oper) (ser : List Nat) (Q : St → Prop) : Nat → Array Bool → St → Prop
  | 0, listed, st => Region.ready .any ops listed = [] ∧ Q st
  | f + 1, listed, st => (Region.ready .any ops listed = [] → Q st) ∧
    ∀ i ∈ Region.ready .any ops listed, ∃ o v u, ops[i]? = some o ∧ StepA P C wr ops.toList o st v u ∧ Chk C ser i o st u ∧
      AnyA P C wr ops ser Q f (listed.setIfInBounds i true) ((st.upd u).put o.dst v)

theorem AnyA.eq {Q : St → Prop} (hQ : ∀ s t, StEq s t → Q s → Q t) : ∀ (f : Nat) (listed : Array Bool) (s t : St), StEq s t → AnyA P C wr ops ser Q f listed s → AnyA P C wr ops ser Q f listed t
  | 0, listed, s, t, he, h => ⟨h.1, hQ _ _ he h.2⟩
  | f + 1, listed, s, t, he, h => ⟨fun h0 => hQ _ _ he (h.1 h0), fun i hi => by
      obtain ⟨o, v, u, h1, h2, h3, h4⟩ := h.2 i hi
      exact ⟨o, v, u, h1, h2.eq he, h3.eq he, AnyA.eq hQ f _ _ _ (he.next u o.dst v) h4⟩⟩

/-- Every order of the machine is an order of the evaluator. -/
theorem AnyA.wp {F : Fence} {n : Nat} (hF : Good F) {N : Nat} {L0 : Nat → Option Blk} {φ0 : Nat → Option Nat} {ok0 : Nat → Nat → Prop} {w0 : World} (hC : TblOK P C) (hd : dstsOK N ops.toList = true) {Q : St → Prop} {Q' : Exit → Act → World → Prop} :
    ∀ (f : Nat) (listed : Array Bool) (st : St) (ok : Nat → Nat → Prop) (φ : Nat → Option Nat) (a : Act) (w : World), AnyA P C wr ops ser Q f listed st → Sim N L0 φ0 ok0 w0 st ok φ a w →
      (∀ st' ok' φ' a' w', Q st' → Sim N L0 φ0 ok0 w0 st' ok' φ' a' w' → Q' .normal a' w') → wpAnyIn F n P .any ops Q' f listed a w
  | 0, listed, st, ok, φ, a, w, h, hS, hQ => ⟨h.1, hQ _ _ _ _ _ h.2 hS⟩
  | f + 1, listed, st, ok, φ, a, w, h, hS, hQ => by
    refine ⟨fun h0 => hQ _ _ _ _ _ (h.1 h0) hS, fun i hi => ?_⟩
    obtain ⟨o, v, u, h1, h2, _, h4⟩ := h.2 i hi
    have hdo : dstOK N o.dst = true := List.all_eq_true.1 hd o (by
      have := List.mem_of_getElem? (show ops.toList[i]? = some o by simpa using h1)
      exact this)
    unfold wpOpIn
    simp only [h1]
    have key := h2.wpOp hF (n := n) hC hS hdo rfl (Q := Q') (next := wpAnyIn F n P .any ops Q' f (listed.setIfInBounds i true)) (fun ok' φ' a' w' hS' => AnyA.wp hF hC hd f _ _ ok' φ' a' w' h4 hS' hQ)
    split
    · rename_i hw; rw [if_pos hw] at key; exact key
    · rename_i hw; rw [if_neg hw] at key; exact key

theorem ev_put {st : St} {u : List (Nat × Blk)} {d : Option Nat} {v : AV} {x : Operand} (h : ∀ t, d = some t → x ≠ .tmp t) : ((st.upd u).put d v).ev x = st.ev x := by
  cases x with
  | tmp t =>
    simp only [St.ev, St.get_put]
    rw [if_neg (fun e => h t e rfl)]; rfl
  | _ => rfl

theorem looks_op {o : Oper} {d : Nat} (h : d ∉ o.looksAt ops) : ∀ x ∈ o.op.operands, x ≠ .tmp d := by
  intro x hx e
  subst e
  apply h
  simp only [Oper.looksAt, List.mem_append]
  left
  exact List.mem_filterMap.2 ⟨.tmp d, by simpa using hx, rfl⟩

theorem opnds_sub {op : Op} : ∀ x ∈ opnds op, x ∈ op.operands := by
  intro x hx
  cases op <;> simp only [opnds, Op.operands, List.mem_cons, List.mem_nil_iff, or_false, List.mem_append, Option.mem_toList] at hx ⊢ <;> try (simp_all; done)
  case call c =>
    obtain ⟨cal, args, ats⟩ := c
    simp only [Call.operands, Array.mem_append]
    cases cal <;> simp_all
  case slice t y lo hi mx =>
    simp only [Array.mem_append]
    rcases hx with ((hx | hx) | hx) | hx
    · exact .inl (.inl (.inl (by simp [hx])))
    · exact .inl (.inl (.inr (by simp [hx])))
    · exact .inl (.inr (by simp [hx]))
    · exact .inr (by simp [hx])

theorem ucL_congr {ρ ρ' : Operand → AV} : ∀ {l : List Operand}, (∀ x ∈ l, ρ x = ρ' x) → ucL ρ l → ucL ρ' l
  | [], _, h => h
  | x :: r, hl, h => ⟨by rw [← hl x (by simp)]; exact h.1, ucL_congr (fun y hy => hl y (by simp [hy])) h.2⟩

theorem Chk.apart {i : Nat} {o : Oper} {d : Option Nat} {v' : AV} {u' : List (Nat × Blk)} {st : St} {u : List (Nat × Blk)} (hd : ∀ t, d = some t → t ∉ o.looksAt ops) (hL : u' = [] ∨ u = []) :
    Chk C ser i o ((st.upd u').put d v') u ↔ Chk C ser i o st u := by
  have h1 : ∀ B, ((((st.upd u').put d v').upd u).lk B = ((st.upd u').put d v').lk B) ↔ ((st.upd u).lk B = st.lk B) := by
    intro B
    rcases hL with rfl | rfl
    · have e0 : st.upd [] = st := rfl
      rw [St.lk_upd, St.lk_put, e0, St.lk_upd]
    · exact ⟨fun _ => rfl, fun _ => rfl⟩
  have h2 : ∀ x ∈ o.op.operands, ((st.upd u').put d v').ev x = st.ev x := fun x hx => ev_put fun t ht => looks_op (hd t ht) x hx
  exact ⟨fun h => ⟨h.1, fun hs B hB => (h1 B).1 (h.2.1 hs B hB), fun hs B hB => loadB_same h2 (h.2.2 hs B hB)⟩,
    fun h => ⟨h.1, fun hs B hB => (h1 B).2 (h.2.1 hs B hB), fun hs B hB => loadB_same (fun x hx => (h2 x hx).symm) (h.2.2 hs B hB)⟩⟩

/-- An operation's outcome does not hang on another's that it does not look at. -/
theorem StepA.apart {o : Oper} {d : Option Nat} {v' : AV} {u' : List (Nat × Blk)} {st : St} {v : AV} {u : List (Nat × Blk)} (hd : ∀ t, d = some t → t ∉ o.looksAt ops) (hL : u' = [] ∨ clsN P o.op = true ∨ ∃ B, loadB C o.op st B ∧ (st.upd u').lk B = st.lk B) :
    StepA P C wr ops.toList o ((st.upd u').put d v') v u ↔ StepA P C wr ops.toList o st v u := by
  have hev : ∀ x ∈ o.op.operands, ((st.upd u').put d v').ev x = st.ev x := fun x hx => ev_put fun t ht => looks_op (hd t ht) x hx
  have hst : evStep P C wr ((st.upd u').put d v').lk o.dst ((st.upd u').put d v').ev o.op = evStep P C wr st.lk o.dst st.ev o.op := by
    rw [evStep_congr hev, St.lk_put]
    rcases hL with rfl | hL | ⟨B, h1, h3⟩
    · rfl
    · exact clsN_step hL
    · exact loadB_step h1 h3
  have hu : ucL ((st.upd u').put d v').ev (opnds o.op) ↔ ucL st.ev (opnds o.op) :=
    ⟨ucL_congr fun x hx => hev x (opnds_sub x hx), ucL_congr fun x hx => (hev x (opnds_sub x hx)).symm⟩
  have hg : ∀ g, o.guard = some g → guardE ((st.upd u').put d v') ops.toList (some g) = guardE st ops.toList (some g) := by
    rintro ⟨j, want⟩ hg
    simp only [guardE]
    cases hj : ops.toList[j]? with
    | none => rfl
    | some oj =>
      simp only
      cases hdj : oj.dst with
      | none => rfl
      | some t =>
        simp only
        rw [St.get_put, if_neg (fun e => hd t e (by
          simp only [Oper.looksAt, List.mem_append]
          right
          have : ops[j]? = some oj := by simpa using hj
          simp [hg, this, hdj]))]
        rfl
  constructor
  · intro h
    cases h with
    | plain _ _ p hg0 he hp hu0 => exact .plain v u p hg0 (by rw [← hst]; exact he) hp (hu.1 hu0)
    | yes v _ p g hg0 hge he hp hu0 => exact .yes v u p g hg0 (by rw [← hg g hg0]; exact hge) (by rw [← hst]; exact he) hp (hu.1 hu0)
    | no v g hg0 hge => exact .no v g hg0 (by rw [← hg g hg0]; exact hge)
  · intro h
    cases h with
    | plain _ _ p hg0 he hp hu0 => exact .plain v u p hg0 (by rw [hst]; exact he) hp (hu.2 hu0)
    | yes v _ p g hg0 hge he hp hu0 => exact .yes v u p g hg0 (by rw [hg g hg0]; exact hge) (by rw [hst]; exact he) hp (hu.2 hu0)
    | no v g hg0 hge => exact .no v g hg0 (by rw [hg g hg0]; exact hge)

theorem StEq.comm {st : St} {di dj : Option Nat} {vi vj : AV} {ui uj : List (Nat × Blk)} (hd : ∀ t, di = some t → dj ≠ some t) (hu : ui = [] ∨ uj = []) :
    StEq ((((st.upd ui).put di vi).upd uj).put dj vj) ((((st.upd uj).put dj vj).upd ui).put di vi) := by
  refine ⟨?_, ?_⟩
  · funext t
    simp only [St.get_put, St.get_upd]
    by_cases h1 : dj = some t
    · by_cases h2 : di = some t
      · exact absurd h1 (hd t h2)
      · simp [h1, h2]
    · by_cases h2 : di = some t <;> simp [h1, h2]
  · rw [St.lk_put, St.lk_put]
    funext j
    rw [St.lk_upd, St.lk_put, St.lk_upd, St.lk_upd, St.lk_put, St.lk_upd]
    rcases hu with rfl | rfl
    · simp [lkB]
    · simp [lkB]

theorem clsN_StepA {o : Oper} {st : St} {v : AV} {u : List (Nat × Blk)} {all : List Oper} (h : clsN P o.op = true) (hs : StepA P C wr all o st v u) : u = [] := by
  cases hs with
  | plain _ _ p hg he hp hu => exact clsN_nil h he
  | yes v _ p g hg hge he hp hu => exact clsN_nil h he
  | no v g hg hge => rfl

/-- What is listed holds all that it waits for. -/
def Closed (ops : Array Oper) (listed : Array Bool) : Prop := ∀ (j : Nat) (oj : Oper), ops[j]? = some oj → listed.getD j false = true → ∀ e ∈ oj.after, Region.binds .any e = true → listed.getD e.on false = true

theorem Closed.set {listed : Array Bool} {i : Nat} (h : Closed ops listed) (hi : i ∈ Region.ready .any ops listed) : Closed ops (listed.setIfInBounds i true) := by
  obtain ⟨_, oi, hoi, hall⟩ := mem_ready.1 hi
  intro j oj hj hl e he hb
  by_cases hij : i = j
  · subst hij
    have : oj = oi := Option.some.inj (hj.symm.trans hoi)
    subst this
    exact getD_set_true (hall e he hb)
  · rw [getD_set_ne false hij] at hl
    exact getD_set_true (h j oj hj hl e he hb)

theorem getD_both' {listed : Array Bool} {i : Nat} (h : listed.getD i true = false) : listed.getD i false = false := by
  rcases Nat.lt_or_ge i listed.size with h' | h'
  · simp [h'] at h ⊢; exact h
  · simp [Array.getElem?_eq_none h'] at h

theorem Closed.anc {listed : Array Bool} {b : List Nat} (h : Closed ops listed) (hb : BefOK ops.toList b) : ∀ (j i : Nat), j < b.length → (b.getD j 0).testBit i = true →
    (∀ oj, ops[j]? = some oj → ∀ e ∈ oj.after, Region.binds .any e = true → listed.getD e.on false = true) → listed.getD i false = true := by
  intro j
  induction j using Nat.strongRecOn with
  | _ j ih =>
    intro i hj ht hdep
    obtain ⟨oj, h1, e, h2, h3, h4⟩ := hb j i hj ht
    have hoj : ops[j]? = some oj := by simpa using h1
    have he := hdep oj hoj e (by simpa using h2) h3
    rcases h4 with h4 | ⟨h4, h5⟩
    · rw [← h4]; exact he
    · exact ih e.on h4 i (by omega) h5 (fun ok hok e' he' hb' => h e.on ok hok he e' he' hb')

/-- What may come up now may be taken first. -/
theorem anyA_first {Q : St → Prop} (hQ : ∀ s t, StEq s t → Q s → Q t) {b : List Nat} (hbef : BefOK ops.toList b) {i : Nat} {oi : Oper} {v : AV} {u : List (Nat × Blk)} (hi : ops[i]? = some oi)
    (hcomp : ∀ (j : Nat) (oj : Oper), ops[j]? = some oj → i < j → (j < b.length ∧ (b.getD j 0).testBit i = true) ∨ (oi.apart ops oj = true ∧ ((ser.contains i = true → clsN P oj.op = true) ∧ (ser.contains j = true → clsN P oi.op = true) ∨ (ser.contains i ≠ ser.contains j ∧ ∃ B, B ∈ codesOf ser i ∧ B ∈ codesOf ser j)))) :
    ∀ (f : Nat) (listed : Array Bool) (st : St), Closed ops listed → (∀ j, j < i → listed.getD j true = true) → i ∈ Region.ready .any ops listed → StepA P C wr ops.toList oi st v u → Chk C ser i oi st u →
      AnyA P C wr ops ser Q f (listed.setIfInBounds i true) ((st.upd u).put oi.dst v) → AnyA P C wr ops ser Q (f + 1) listed st := by
  intro f
  induction f with
  | zero =>
    intro listed st hcl hlow hr hy hui H
    refine ⟨fun h => (by rw [h] at hr; cases hr), fun j hj => ?_⟩
    by_cases hji : j = i
    · subst hji; exact ⟨oi, v, u, hi, hy, hui, H⟩
    · have := ready_mono hj hji
      rw [H.1] at this
      cases this
  | succ f ih =>
    intro listed st hcl hlow hr hy hui H
    refine ⟨fun h => (by rw [h] at hr; cases hr), fun j hj => ?_⟩
    by_cases hji : j = i
    · subst hji; exact ⟨oi, v, u, hi, hy, hui, H⟩
    · obtain ⟨oj, vj, uj, h1, h2, h3, h4⟩ := H.2 j (ready_mono hj hji)
      obtain ⟨hjun, oj', hoj', hall⟩ := mem_ready.1 hj
      rw [h1] at hoj'; cases hoj'
      have hiun := (mem_ready.1 hr).1
      have hij : i < j := by
        rcases Nat.lt_or_ge j i with h | h
        · rw [hlow j h] at hjun; cases hjun
        · omega
      rcases hcomp j oj h1 hij with ⟨hjb, hanc⟩ | ⟨hap, hs2⟩
      · have := hcl.anc hbef j i hjb hanc (fun ok hok => by rw [h1] at hok; cases hok; exact hall)
        rw [getD_both' hiun] at this
        cases this
      · obtain ⟨a1, a2, a3⟩ := Oper.apart_spec hap
        have hboth : u = [] ∨ uj = [] := by
          rcases hs2 with ⟨hsi, hsj⟩ | ⟨hne, _⟩
          · cases hs : ser.contains i with
            | false => exact .inl (hui.1 hs)
            | true => exact .inr (clsN_StepA (hsi hs) h2)
          · cases hs : ser.contains i with
            | false => exact .inl (hui.1 hs)
            | true => exact .inr (h3.1 (by rw [hs] at hne; cases hs' : ser.contains j with | false => rfl | true => rw [hs'] at hne; exact absurd rfl hne))
        have h3' : Chk C ser j oj st uj := (Chk.apart a1 hboth).1 h3
        have hLi : u = [] ∨ clsN P oj.op = true ∨ ∃ B, loadB C oj.op st B ∧ (st.upd u).lk B = st.lk B := by
          cases hs : ser.contains i with
          | false => exact .inl (hui.1 hs)
          | true =>
            rcases hs2 with ⟨hsi, hsj⟩ | ⟨hne, B, hB1, hB2⟩
            · exact .inr (.inl (hsi hs))
            · have hj0 : ser.contains j = false := by rw [hs] at hne; cases hs' : ser.contains j with | false => rfl | true => rw [hs'] at hne; exact absurd rfl hne
              exact .inr (.inr ⟨B, h3'.2.2 hj0 B hB2, hui.2.1 hs B hB1⟩)
        have hLj : uj = [] ∨ clsN P oi.op = true ∨ ∃ B, loadB C oi.op st B ∧ (st.upd uj).lk B = st.lk B := by
          cases hs : ser.contains j with
          | false => exact .inl (h3.1 hs)
          | true =>
            rcases hs2 with ⟨hsi, hsj⟩ | ⟨hne, B, hB1, hB2⟩
            · exact .inr (.inl (hsj hs))
            · have hi0 : ser.contains i = false := by rw [hs] at hne; cases hs' : ser.contains i with | false => rfl | true => rw [hs'] at hne; exact absurd rfl hne
              exact .inr (.inr ⟨B, hui.2.2 hi0 B hB1, h3'.2.1 hs B hB2⟩)
        have h5 : StepA P C wr ops.toList oj st vj uj := (StepA.apart a1 hLi).1 h2
        have h6 : StepA P C wr ops.toList oi ((st.upd uj).put oj.dst vj) v u := (StepA.apart a3 hLj).2 hy
        have h7 : Chk C ser i oi ((st.upd uj).put oj.dst vj) u := (Chk.apart a3 hboth.symm).2 hui
        refine ⟨oj, vj, uj, h1, h5, h3', ?_⟩
        refine ih (listed.setIfInBounds j true) _ (hcl.set hj) (fun k hk => ?_) (ready_mono hr (Ne.symm hji)) h6 h7 ?_
        · by_cases hjk : j = k
          · omega
          · rw [getD_set_ne true hjk]; exact hlow k hk
        · rw [Array.setIfInBounds_comm _ _ hji]
          exact AnyA.eq hQ _ _ _ _ (StEq.comm a2 hboth) h4
end
end Go.Abs
