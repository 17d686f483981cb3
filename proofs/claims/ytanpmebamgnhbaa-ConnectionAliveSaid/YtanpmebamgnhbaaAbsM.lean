/- One operation, and a region in the text's order. No condition. -/
import Derived.Test.YtanpmebamgnhbaaAbsL
set_option linter.unusedVariables false
set_option linter.unusedSimpArgs false
namespace Go.Abs

/-- Whether an operation is carried out, by its guard. -/
def guardE (st : St) (all : List Oper) : Option (Nat × Bool) → Option Bool
  | none => some true
  | some (j, want) =>
    match all[j]? with
    | some o => match o.dst with
      | some d => match st.get d with
        | .cond e (.bool b) => some (e && (b == want))
        | .bool b => some (b == want)
        | _ => none
      | none => none
    | none => none

def Stuck (o : Oper) : Prop := False

/-- An operation's outcome: what its slot holds, and the blocks that it turns. -/
inductive StepA (P : Program) (C : Tbl) (wr : Bool) (all : List Oper) (o : Oper) (st : St) : AV → List (Nat × Blk) → Prop
  | plain (v : AV) (u : List (Nat × Blk)) (p : Prop) (hg : o.guard = none) (h : evStep P C wr st.lk o.dst st.ev o.op = some (v, u, p)) (hp : p) (hu : ucL st.ev (opnds o.op)) : StepA P C wr all o st v u
  | yes (v : AV) (u : List (Nat × Blk)) (p : Prop) (g : Nat × Bool) (hg : o.guard = some g) (he : guardE st all (some g) = some true) (h : evStep P C wr st.lk o.dst st.ev o.op = some (v, u, p)) (hp : p)
      (hu : ucL st.ev (opnds o.op)) : StepA P C wr all o st (.cond true v) u
  | no (v : AV) (g : Nat × Bool) (hg : o.guard = some g) (he : guardE st all (some g) = some false) : StepA P C wr all o st (.cond false v) []

/-- One operation, then the rest. -/
def Wop (P : Program) (C : Tbl) (wr : Bool) (all : List Oper) (o : Oper) (st : St) (K : St → Prop) : Prop :=
  match o.guard with
  | none => match evStep P C wr st.lk o.dst st.ev o.op with
    | some (v, u, p) => ucL st.ev (opnds o.op) ∧ p ∧ K ((st.upd u).put o.dst v)
    | none => Stuck o
  | some g => match guardE st all (some g) with
    | some e => match evStep P C wr st.lk o.dst st.ev o.op with
      | some (v, [], p) => (e = true → ucL st.ev (opnds o.op) ∧ p) ∧ K (st.put o.dst (.cond e v))
      | some (v, u, p) => (e = true → ucL st.ev (opnds o.op) ∧ p ∧ K ((st.upd u).put o.dst (.cond true v))) ∧ (e = false → K (st.put o.dst (.cond false .any)))
      | none => e = false ∧ K (st.put o.dst (.cond false .any))
    | none => Stuck o

theorem upd_nil (st : St) : st.upd [] = st := rfl

theorem Wop.step {P C wr all o st K} (h : Wop P C wr all o st K) : ∃ v u, StepA P C wr all o st v u ∧ K ((st.upd u).put o.dst v) := by
  unfold Wop at h
  split at h
  · rename_i hg
    split at h
    · rename_i v u p he
      obtain ⟨h1, h2, h3⟩ := h
      exact ⟨v, u, .plain v u p hg he h2 h1, h3⟩
    · exact h.elim
  · rename_i g hg
    split at h
    · rename_i e hge
      split at h
      · rename_i v p he
        obtain ⟨h1, h2⟩ := h
        cases e with
        | true => obtain ⟨h3, h4⟩ := h1 rfl; exact ⟨_, [], .yes v [] p g hg hge he h4 h3, h2⟩
        | false => exact ⟨_, [], .no v g hg hge, h2⟩
      · rename_i v u p hne he
        obtain ⟨h1, h2⟩ := h
        cases e with
        | true => obtain ⟨h3, h4, h5⟩ := h1 rfl; exact ⟨_, u, .yes v u p g hg hge he h4 h3, h5⟩
        | false => exact ⟨_, [], .no .any g hg hge, h2 rfl⟩
      · obtain ⟨h1, h2⟩ := h
        subst h1
        exact ⟨_, [], .no .any g hg hge, h2⟩
    · exact h.elim

section
variable {P : Program} {C : Tbl} {wr : Bool} {N : Nat} {L0 : Nat → Option Blk} {φ0 : Nat → Option Nat} {ok0 : Nat → Nat → Prop} {w0 : World} {st : St} {ok : Nat → Nat → Prop} {φ : Nat → Option Nat}
  {a : Act} {w : World} {o : Oper}

variable {F : Fence} {n : Nat}
theorem Good.fn (h : Good F) (f : FuncId) : F.fn f := by
  rcases h with rfl | ⟨l, rfl⟩ <;> trivial
theorem Good.deep (h : Good F) : F.depth.isSome = true → 1 ≤ n := by
  rcases h with rfl | ⟨l, rfl⟩ <;> exact fun h => by simp [Fence.wide] at h
theorem Good.calls (h : Good F) {f : FuncId} {args : Array Value} {w : World} {Q : Ending → World → Prop} (hc : Calls P f args w Q) : CallsIn F n P f args w Q := by
  rcases h with rfl | ⟨l, rfl⟩
  · exact callsIn_wide.2 hc
  · exact CallsIn.inRound l (callsIn_wide.2 hc)
theorem semAt_plain {r : Option Nat} {o : Oper} {ρ : Operand → Value} (h : ∀ c, o.op ≠ .defer c) : o.semAt r ρ = execOp ρ o := by
  cases r with
  | none => exact Oper.semAt_none ..
  | some l => exact Oper.semAt_some l ρ o h
theorem evStep_defer {L : Nat → Option Blk} {dst : Option Nat} {ρ : Operand → AV} {c : Call} : evStep P C wr L dst ρ (.defer c) = none := rfl

theorem CallsX.upon (hF : Good F) {f : FuncId} {vs : List Value} {Q1 : Ending → World → Prop} {next : Act → World → Prop} {Q : Exit → Act → World → Prop} (h : CallsX P f vs w Q1)
    (hQ : ∀ e w', Q1 e w' → ∃ v, e = .returned v ∧ next (a.put o.dst v) w') : o.uponIn F n P a next Q ((InvF f vs).run P w) := by
  obtain ⟨nx, w', h1, h2⟩ := h
  rw [h1]
  cases nx with
  | enter g args =>
    refine ⟨hF.deep, (hF.calls h2).mono ?_⟩
    intro e w'' he
    obtain ⟨v, rfl, hv⟩ := hQ e w'' he
    exact hv
  | value v =>
    obtain ⟨v', he, hv⟩ := hQ _ _ h2
    cases he
    exact hv
  | round l g tmps assign body =>
    refine ⟨hF.deep, (h2 F hF (n - 1)).mono ?_⟩
    intro e w'' he
    obtain ⟨v, rfl, hv⟩ := hQ e w'' he
    exact hv
  | _ => exact h2.elim

theorem Sim.upd0 (h : Sim N L0 φ0 ok0 w0 st ok φ a w) {dst : Option Nat} (hd : dstOK N dst = true) {v' : AV} {v : Value} (hv : R w ok st.lk φ v' v) :
    Sim N L0 φ0 ok0 w0 (st.put dst v') ok φ (a.put dst v) w := by
  have := h.put (u := []) hd (Ext.refl h.heap) hv
  simpa [upd_nil] using this

theorem evStep_wp (hF : Good F) {v' : AV} {u : List (Nat × Blk)} {p : Prop} (hC : TblOK P C) (h : Sim N L0 φ0 ok0 w0 st ok φ a w) (hd : dstOK N o.dst = true)
    (ho : evStep P C wr st.lk o.dst st.ev o.op = some (v', u, p)) (hp : p) (hu : ucL st.ev (opnds o.op)) {next : Act → World → Prop} {Q : Exit → Act → World → Prop} (vw : AV → AV)
    (hvw : ∀ w' ok' φ' v, R w' ok' (st.upd u).lk φ' v' v → R w' ok' (st.upd u).lk φ' (vw v') v)
    (hn : ∀ ok' φ' a' w', Sim N L0 φ0 ok0 w0 ((st.upd u).put o.dst (vw v')) ok' φ' a' w' → next a' w') : o.wpIn F n P a w next Q := by
  have hR : ∀ x, R w ok st.lk φ (st.ev x) (a.eval x) := h.ev
  refine ⟨fun f _ => hF.fn f, ?_⟩
  rw [semAt_plain (fun c hc => by rw [hc, evStep_defer] at ho; cases ho)]
  unfold evStep at ho
  split at ho
  · rename_i v1 p1 he
    simp only [Option.some.injEq, Prod.mk.injEq] at ho
    obtain ⟨rfl, rfl, rfl⟩ := ho
    obtain ⟨v, h1, h2⟩ := evPure_ok he hp hR hu
    rw [h1]
    exact hn _ _ _ _ (h.put hd (Ext.refl h.heap) (hvw _ _ _ _ h2))
  · split at ho
    · rename_i v1 p1 he
      simp only [Option.some.injEq, Prod.mk.injEq] at ho
      obtain ⟨rfl, rfl, rfl⟩ := ho
      obtain ⟨v, h1, h2⟩ := evRead_ok he hp h.heap hR hu
      rw [h1]
      exact hn _ _ _ _ (h.put hd (Ext.refl h.heap) (hvw _ _ _ _ h2))
    · split at ho
      · rename_i v1 i1 b1 p1 he
        simp only [Option.some.injEq, Prod.mk.injEq] at ho
        obtain ⟨rfl, rfl, rfl⟩ := ho
        obtain ⟨n, v, w', φ', h1, h2, h3, h4⟩ := evEff_ok (w0 := w0) (X := fun b => ∃ i, φ0 i = some b) he hp h.heap h.frame.size hR hu
        rw [h1]
        have e : (st.upd [(i1, b1)]).lk = updL st.lk i1 b1 := lk_upd1 st i1 b1
        rw [← e] at h3 h4
        rcases h2 with rfl | ⟨rfl, rfl⟩
        · exact hn _ _ _ _ (h.put hd h3 (hvw _ _ _ _ h4))
        · exact hn _ _ _ _ (h.put hd h3 (hvw _ _ _ _ h4))
      · -- a call
        unfold evCall at ho
        split at ho
        · rename_i g args ats hop
          split at ho
          · rename_i f k cs hg
            split at ho
            · cases ho
            rename_i hyl
            have hgr := (hR g).un ((ucL_mem hu) g (by simp [opnds, hop]))
            rw [hg] at hgr
            obtain ⟨us, hgv, hul, hur⟩ : ∃ us : List Value, a.eval g = .func (.func f) (us.take k).toArray (us.drop k).toArray ∧ us.length = cs.length ∧ (∀ (i : Nat) (x : AV) (v : Value), cs[i]? = some x → us[i]? = some v → R w ok st.lk φ x v) := by
              generalize a.eval g = gv at hgr
              cases hgr with
              | pure _ _ h => cases h with | clo _ _ _ us hl h => exact ⟨us, rfl, hl, fun i x v hx hv => .pure _ _ (h i x v hx hv)⟩
              | clo _ _ _ us hl h => exact ⟨us, rfl, hl, h⟩
            have hcalls := evCallP_ok (w0 := w0) (X := fun b => ∃ i, φ0 i = some b) (vs := us.take k ++ (args.toList.map a.eval ++ us.drop k)) hC (L := st.lk) (Lst := st.L) rfl ho hp h.heap (by simp [hul]) (fun i x v hx hv => by
              rw [List.getElem?_append] at hx hv
              have hlen : (us.take k).length = (cs.take k).length := by simp [hul]
              rw [hlen] at hv
              split at hx
              · rename_i hlt
                rw [if_pos hlt] at hv
                rw [List.getElem?_take] at hx hv
                split at hx
                · rename_i hk
                  rw [if_pos hk] at hv
                  exact hur _ _ _ hx hv
                · simp at hx
              rename_i hge
              rw [if_neg hge] at hv
              rw [List.getElem?_append] at hx hv
              simp only [List.length_map] at hx hv
              split at hx
              · rename_i hlt
                rw [if_pos hlt] at hv
                simp only [List.getElem?_map, Option.map_eq_some_iff] at hx hv
                obtain ⟨y, hy, rfl⟩ := hx
                obtain ⟨z, hz, rfl⟩ := hv
                rw [hy] at hz; cases hz
                exact (hR y).un ((ucL_mem hu) y (by simp only [opnds, hop, List.mem_append]; exact .inr (List.mem_of_getElem? hy)))
              · rename_i hlt
                rw [if_neg hlt] at hv
                rw [List.getElem?_drop] at hx hv
                exact hur _ _ _ hx hv)
            have hrun : (execOp a.eval o).run P w = (InvF f (us.take k ++ (args.toList.map a.eval ++ us.drop k))).run P w := by
              have e1 : (us.take k).toArray ++ (args.map a.eval) ++ (us.drop k).toArray = (us.take k ++ (args.toList.map a.eval ++ us.drop k)).toArray := by apply Array.ext'; simp
              simp only [execOp, hop, resolve, hgv, Deferred.ofValue, Sem.run_bind, Sem.run_pure, Result.andThen_ok, invoke, Array.empty_append]
              rw [e1]
              simp only [InvF, if_neg hyl]
            rw [hrun]
            refine hcalls.upon hF ?_
            rintro e w' ⟨v, ok', φ', rfl, h3, h4⟩
            exact ⟨v, rfl, hn _ _ _ _ (h.put hd h3 (hvw _ _ _ _ h4))⟩
          · rename_i id' hg
            have hgr := (hR g).un ((ucL_mem hu) g (by simp [opnds, hop]))
            rw [hg] at hgr
            obtain ⟨b, hgv⟩ : ∃ b, a.eval g = .func (.yield b) #[] #[] := by
              generalize a.eval g = gv at hgr
              cases hgr with
              | pure _ _ h => cases h
              | yld _ _ _ _ _ b => exact ⟨b, rfl⟩
            have hcalls := evCallP_ok (w0 := w0) (X := fun b => ∃ i, φ0 i = some b) (vs := a.eval g :: args.toList.map a.eval) hC (L := st.lk) (Lst := st.L) rfl ho hp h.heap (by simp) (fun i x v hx hv => by
              cases i with
              | zero => simp at hx hv; subst hx; subst hv; exact hgr
              | succ i =>
                simp only [List.getElem?_cons_succ, List.getElem?_map, Option.map_eq_some_iff] at hx hv
                obtain ⟨y, hy, rfl⟩ := hx
                obtain ⟨z, hz, rfl⟩ := hv
                rw [hy] at hz; cases hz
                exact (hR y).un ((ucL_mem hu) y (by simp only [opnds, hop, List.mem_append]; exact .inr (List.mem_of_getElem? hy))))
            have hrun : (execOp a.eval o).run P w = (InvF yldF (a.eval g :: args.toList.map a.eval)).run P w := by
              have e1 : (args.map a.eval) = (args.toList.map a.eval).toArray := by apply Array.ext'; simp
              simp only [execOp, hop, resolve, hgv, Deferred.ofValue, Sem.run_bind, Sem.run_pure, Result.andThen_ok, invoke, Array.empty_append, Array.append_empty]
              rw [e1]
              simp only [InvF, if_true]
            rw [hrun]
            refine hcalls.upon hF ?_
            rintro e w' ⟨v, ok', φ', rfl, h3, h4⟩
            exact ⟨v, rfl, hn _ _ _ _ (h.put hd h3 (hvw _ _ _ _ h4))⟩
          · simp at ho
        · simp at ho

/-- Whether the guard asks for it: the machine and the evaluator agree. -/
theorem guardE_ok {all : List Oper} {g : Nat × Bool} {e : Bool} (h : Sim N L0 φ0 ok0 w0 st ok φ a w) (hg : o.guard = some g) (he : guardE st all (some g) = some e) {ops : Array Oper} (hall : ops.toList = all) :
    Region.wanted o (yielded ops a.tmps) = e := by
  obtain ⟨j, want⟩ := g
  simp only [guardE] at he
  split at he
  · rename_i oj hj
    split at he
    · rename_i d hd
      have hj' : ops[j]? = some oj := by rw [← hall] at hj; simpa using hj
      have hslot := h.slots d
      have key : ∀ v, a.tmps.getD d undef = v → v ≠ undef → a.tmps[d]? = some v := by
        intro v hv hne
        by_cases hlt : d < a.tmps.size
        · simp [Array.getD, hlt] at hv
          simp [hlt, hv]
        · simp [Array.getD, hlt] at hv
          exact absurd hv.symm hne
      split at he
      · rename_i e1 b hst
        simp only [Option.some.injEq] at he
        rw [hst] at hslot
        cases e1 with
        | true =>
          have hb := (hslot.un rfl).boolInv
          have := key _ hb (by simp [undef])
          simp [Region.wanted, hg, yielded, hj', hd, this, ← he]
        | false =>
          have hv : a.tmps.getD d undef = undef := by
            generalize a.tmps.getD d undef = vv at hslot
            cases hslot with | pure _ _ h => cases h; rfl
          have hno : ∀ b : Bool, a.tmps[d]? ≠ some (.bool b) := by
            intro b hb
            have hlt := (Array.getElem?_eq_some_iff.1 hb).1
            have : a.tmps.getD d undef = .bool b := by simp [Array.getD, hlt]; have := (Array.getElem?_eq_some_iff.1 hb).2; exact this
            rw [hv] at this; simp [undef] at this
          have hy : yielded ops a.tmps j = none := by
            simp only [yielded, hj', hd, Option.bind_some]
          simp only [Region.wanted, hg, hy, ← he, Bool.false_and]
          try rfl
      · rename_i b hst
        simp only [Option.some.injEq] at he
        rw [hst] at hslot
        have hb := hslot.boolInv
        have := key _ hb (by simp [undef])
        simp [Region.wanted, hg, yielded, hj', hd, this, ← he]
      · simp at he
    · simp at he
  · simp at he

/-- One operation of the machine follows the evaluator's. -/
theorem StepA.wpOp (hF : Good F) {all : List Oper} {v : AV} {u : List (Nat × Blk)} (hC : TblOK P C) (h : Sim N L0 φ0 ok0 w0 st ok φ a w) (hd : dstOK N o.dst = true) (hs : StepA P C wr all o st v u)
    {ops : Array Oper} (hall : ops.toList = all) {next : Act → World → Prop} {Q : Exit → Act → World → Prop}
    (hn : ∀ ok' φ' a' w', Sim N L0 φ0 ok0 w0 ((st.upd u).put o.dst v) ok' φ' a' w' → next a' w') :
    if Region.wanted o (yielded ops a.tmps) then o.wpIn F n P a w next Q else (∀ f, o.about P w a.eval = some f → F.fn f) ∧ next (a.put o.dst undef) w := by
  cases hs with
  | plain _ _ p hg he hp hu =>
    rw [if_pos (by simp [Region.wanted, hg])]
    exact evStep_wp hF hC h hd he hp hu id (fun _ _ _ _ h => h) hn
  | yes v _ p g hg hge he hp hu =>
    rw [guardE_ok h hg hge hall, if_pos rfl]
    exact evStep_wp hF hC h hd he hp hu (AV.cond true) (fun _ _ _ _ h => .condT _ _ h) hn
  | no v g hg hge =>
    rw [guardE_ok h hg hge hall, if_neg (by simp)]
    exact ⟨fun f _ => hF.fn f, hn _ _ _ _ (h.upd0 hd (.pure _ _ (.condF v)))⟩

/-! ### a region in the text's order -/
def Wops (P : Program) (C : Tbl) (wr : Bool) (all : List Oper) : List Oper → St → (St → Prop) → Prop
  | [], st, Q => Q st
  | o :: r, st, Q => Wop P C wr all o st fun st' => Wops P C wr all r st' Q

def dstsOK (N : Nat) (ops : List Oper) : Bool := ops.all fun o => dstOK N o.dst

theorem Wops.wpList (hF : Good F) {all : List Oper} {ops : Array Oper} (hall : ops.toList = all) (hC : TblOK P C) {Q : St → Prop} {Q' : Exit → Act → World → Prop} : ∀ (l : List Oper) (st : St) (ok : Nat → Nat → Prop) (φ : Nat → Option Nat) (a : Act) (w : World),
    dstsOK N l = true → Wops P C wr all l st Q → Sim N L0 φ0 ok0 w0 st ok φ a w → (∀ st' ok' φ' a' w', Q st' → Sim N L0 φ0 ok0 w0 st' ok' φ' a' w' → Q' .normal a' w') → wpListIn F n P ops Q' l a w
  | [], st, ok, φ, a, w, _, hW, hS, hQ => hQ _ _ _ _ _ hW hS
  | o :: r, st, ok, φ, a, w, hd, hW, hS, hQ => by
    simp only [dstsOK, List.all_cons, Bool.and_eq_true] at hd
    obtain ⟨v, u, h1, h2⟩ := Wop.step hW
    refine wpListIn_step fun K hK => h1.wpOp hF hC hS hd.1 hall fun ok' φ' a' w' hS' => hK _ _ ?_
    exact Wops.wpList hF hall hC r _ ok' φ' a' w' hd.2 h2 hS' hQ
end
end Go.Abs
