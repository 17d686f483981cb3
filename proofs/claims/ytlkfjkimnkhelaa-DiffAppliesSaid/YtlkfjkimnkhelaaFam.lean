/- Families of blocks; forgetting at a function's end. No condition. -/
import Derived.Test.YtlkfjkimnkhelaaAbsV
set_option linter.unusedVariables false
set_option linter.unusedSimpArgs false
namespace Go.Abs

/-- A function's end, where the state may be told in other words first. -/
def FinW (P : Program) (m : Nat) (rl : List ResultVar) (E' : List Blk) (res : List AV) : Ex → St → Prop := fun e st => ∃ st', Weak m st st' ∧ FinR P m rl E' res e st'

theorem spec_ofW {P : Program} {C : Tbl} {wr : Bool} {D : Nat → List Nat} {U : Nat → Option CutS} {f N : Nat} {fn : Func} {c : Code} {rl : List ResultVar} {E E' : List Blk} {args res : List AV}
    (hm : P.follows .mixedOrders = true) (hC : TblOK P C) (hcl : callable P f = true) (hy : f ≠ yldF) (hf : P.funcs[f]? = some fn) (hb : fn.body = some c) (hN : fn.ntmps = N) (hrs : fn.results = rl.toArray)
    (hok : (codeOK P N D c && decide (args.length ≤ N) && decide (E.length ≤ deadId)) = true)
    (h : W P C wr D U E.length c (St.init E args) (FinW P E.length rl E' res)) : SpecE P f E args E' (resAV res) := by
  simp only [Bool.and_eq_true, decide_eq_true_eq] at hok
  obtain ⟨⟨hok, hal⟩, hEd⟩ := hok
  intro w ok φ vs hh hl hr
  refine CallsX.calls hcl hy ?_
  refine (callsIn_wide (n := 0)).1 (callsIn_of_wp hf hb trivial ?_)
  have hlk : ∀ i, (St.init E args).lk i = lkE E i := fun i => by simp [St.lk, St.init, extB_get, lkE]
  have hlk' : (St.init E args).lk = lkE E := funext hlk
  have hS : Sim N (lkE E) φ ok w (St.init E args) ok φ { tmps := vs.toArray ++ Array.replicate (fn.ntmps - vs.toArray.size) undef, defers := [] } w := by
    refine ⟨fun t => ?_, ?_, .inl rfl, by rw [hlk']; exact hh, by rw [hlk']; exact Keeps.refl _ _ _ _, Fr.refl _ _, fun id b hb => .inl ⟨id, hb⟩, fun b o hb => .inl hb⟩
    · rw [hlk']
      simp only [St.get, St.init, argT_get, Nat.not_lt_zero, if_false, Nat.sub_zero]
      by_cases ht : t < args.length
      · have h1 : args[t]? = some args[t] := List.getElem?_eq_getElem ht
        have h2 : vs[t]? = some vs[t] := List.getElem?_eq_getElem (by omega)
        rw [List.getD_eq_getElem?_getD, h1]
        have : (vs.toArray ++ Array.replicate (fn.ntmps - vs.toArray.size) undef).getD t undef = vs[t] := by
          rw [Array.getD_eq_getD_getElem?, Array.getElem?_append_left (by simp; omega)]
          simp [h2]
        simp only [this, Option.getD_some]
        exact hr t _ _ h1 h2
      · rw [List.getD_eq_getElem?_getD, List.getElem?_eq_none (by omega)]
        exact .pure _ _ (.any _)
    · simp [hl, hN]; omega
  refine wpIn_mono (W_wp (.inl rfl) (N := N) (L0 := lkE E) (φ0 := φ) (ok0 := ok) (w0 := w) hm hC (fun i hi => by
      rcases Nat.lt_or_ge i E.length with h' | h'
      · exact h'
      · exact absurd (List.getElem?_eq_none_iff.2 h') hi) c _ _ ok φ _ w (.inl rfl) hok (fun e s t he hs => ?_) h hS) (fun e a' w' hp => ?_)
  · obtain ⟨s', h1, h2⟩ := hs
    exact ⟨s', h1.eq he, h2⟩
  · obtain ⟨e', st0, ok0, φ0, rfl, ⟨st', hwk, hq⟩, hS0⟩ := hp
    obtain ⟨ok1, φ1, hS1⟩ := hS0.weak (m := E.length) (fun i hi => by
      rcases Nat.lt_or_ge i E.length with h' | h'
      · exact h'
      · exact absurd (List.getElem?_eq_none_iff.2 h') hi) hwk
    have main : Ret P E.length rl E' res st' → a'.defers = [] ∧ ∃ v, (results fn a'.tmps).run P w' = .ok v w' ∧
        (∃ v' ok' φ', Ending.returned v = .returned v' ∧ PostE w ok (lkE E) φ w' ok' φ' (lkE E') (resAV res) v') := by
      rintro ⟨l, p, xs, hres, hp, h1, h2, h5, h6, h7, h8⟩
      obtain ⟨hll, vs', hvl, hvr, hrun⟩ := resR_ok hS1.heap hS1.slots rl l p hres hp
      have hds : a'.defers = [] := by
        rcases hS1.defers with g1 | ⟨b, g1, _⟩
        · exact g1
        · rw [h8] at g1; cases g1
      obtain ⟨ok2, φ2, post⟩ := hS1.post hEd hvl hvr h1 h2 h5 h6 h7
      exact ⟨hds, _, results_run hrs hrun, _, ok2, φ2, rfl, post⟩
    cases e' with
    | normal => exact main hq
    | exit i => exact hq.elim
    | ret => exact main hq


theorem specW {P : Program} {C : Tbl} {wr : Bool} {D : Nat → List Nat} {U : Nat → Option CutS} {f : Nat} {fn : Func} {E E' : List Blk} {args res : List AV} {nE nA : Nat}
    (hm : P.follows .mixedOrders = true) (hC : TblOK P C) (hf : P.funcs[f]? = some fn) (hok : fnOK P fn D nE nA = true) (hE : E.length = nE) (hA : args.length = nA)
    (h : W P C wr D U nE (bodyOf fn) (St.init E args) (FinW P nE (rlOf fn) E' res)) : SpecE P f E args E' (resAV res) := by
  obtain ⟨hcl, hy⟩ := fnOK_call hf hok
  simp only [fnOK, Bool.and_eq_true, decide_eq_true_eq] at hok
  obtain ⟨⟨⟨⟨h1, h2⟩, h3⟩, h4⟩, _⟩ := hok
  subst hE hA
  refine spec_ofW (rl := rlOf fn) (N := fn.ntmps) (c := bodyOf fn) hm hC hcl hy hf ?_ rfl (by simp [rlOf]) ?_ h
  · unfold bodyOf
    cases hb : fn.body with
    | none => rw [hb] at h1; cases h1
    | some c => rfl
  · simp only [Bool.and_eq_true, decide_eq_true_eq]
    exact ⟨⟨h2, h3⟩, by simp only [deadId, defId] at h4 ⊢; omega⟩

theorem finW0 {P : Program} {rl : List ResultVar} {res : List AV} {st st' : St} (hw : Weak 0 st st') (hp : ∀ σ, renL σ res = res) (h : match resR P st'.lk st'.get rl with
    | some (l, p) => p ∧ noAny res = true ∧ subP st'.lk (fun _ => none) l res ∧ st'.lk defId = none
    | none => False) : FinW P 0 rl [] res .normal st := ⟨st', hw, ret0 hp h⟩

theorem finW0r {P : Program} {rl : List ResultVar} {res : List AV} {st st' : St} (hw : Weak 0 st st') (hp : ∀ σ, renL σ res = res) (h : match resR P st'.lk st'.get rl with
    | some (l, p) => p ∧ noAny res = true ∧ subP st'.lk (fun _ => none) l res ∧ st'.lk defId = none
    | none => False) : FinW P 0 rl [] res .ret st := ⟨st', hw, ret0 hp h⟩
/-! ### loops, where the state may be told in other words -/
def kinvW {X : Type} (m : Nat) (emb : X → St) (I : X → Prop) (μ : X → Nat) (x : X) (Q : Ex → St → Prop) : Ex → St → Prop
  | .normal, s => ∃ x', Weak m s (emb x') ∧ I x' ∧ μ x' < μ x
  | .exit i, s => Q (.exit i) s
  | .ret, s => Q .ret s
section
variable {P : Program} {C : Tbl} {wr : Bool} {D : Nat → List Nat} {U : Nat → Option CutS} {m : Nat} {st : St} {Q : Ex → St → Prop} {b : Code}
theorem VL_invW {X : Type} (emb : X → St) (I : X → Prop) (μ : X → Nat) (x0 : X) (hw : Weak m st (emb x0)) (hI : I x0) (h : ∀ x, I x → @V P C wr m (emb x) ⟨D⟩ ⟨U⟩ ⟨b⟩ ⟨kinvW m emb I μ x Q⟩) : @VL P C wr m st ⟨D⟩ ⟨U⟩ ⟨b⟩ ⟨Q⟩ :=
  ⟨0, X, emb, I, μ, x0, hw, hI, fun x hx => W_mono _ _ _ _ (fun e s hs => by cases e <;> exact hs) (h x hx)⟩
theorem kinvW_normal {X : Type} {emb : X → St} {I : X → Prop} {μ : X → Nat} {x : X} {s} : kinvW m emb I μ x Q .normal s = ∃ x', Weak m s (emb x') ∧ I x' ∧ μ x' < μ x := rfl
theorem kinvW_exit {X : Type} {emb : X → St} {I : X → Prop} {μ : X → Nat} {x : X} {i s} : kinvW m emb I μ x Q (.exit i) s = Q (.exit i) s := rfl
theorem kinvW_ret {X : Type} {emb : X → St} {I : X → Prop} {μ : X → Nat} {x : X} {s} : kinvW m emb I μ x Q .ret s = Q .ret s := rfl
end

/-! ### a row of blocks under names that follow one another -/
theorem lkB_ext (L : List (Nat × Blk)) (j : Nat) : ∀ (E : List Blk) (i : Nat), lkB (extB E i ++ L) j = if i ≤ j ∧ j < i + E.length then E[j - i]? else lkB L j
  | [], i => by rw [if_neg (by simp)]; rfl
  | b :: r, i => by
    simp only [extB, List.cons_append, lkB]
    by_cases e : i = j
    · subst e; simp
    · rw [if_neg e, lkB_ext L j r (i + 1)]
      simp only [List.length_cons]
      by_cases h : i ≤ j ∧ j < i + (r.length + 1)
      · rw [if_pos h, if_pos (by omega), show j - i = (j - (i + 1)) + 1 by omega, List.getElem?_cons_succ]
      · rw [if_neg h, if_neg (by omega)]
theorem lkB_ext_lo {L : List (Nat × Blk)} {j i : Nat} {E : List Blk} (h : j < i) : lkB (extB E i ++ L) j = lkB L j := by
  rw [lkB_ext, if_neg (by omega)]
theorem lkB_ext_hi {L : List (Nat × Blk)} {j i : Nat} {E : List Blk} (h : i + E.length ≤ j) : lkB (extB E i ++ L) j = lkB L j := by
  rw [lkB_ext, if_neg (by omega)]
theorem lkB_ext_in {L : List (Nat × Blk)} {i k : Nat} {E : List Blk} {b : Blk} (h : E[k]? = some b) : lkB (extB E i ++ L) (i + k) = some b := by
  have := (List.getElem?_eq_some_iff.1 h).1
  rw [lkB_ext, if_pos (by omega), Nat.add_sub_cancel_left, h]
theorem lkB_fam_lo {j i : Nat} {E : List Blk} (h : j < i) : lkB (extB E i) j = none := by
  have := lkB_ext_lo (L := []) (E := E) h
  rwa [List.append_nil] at this
theorem lkB_fam_hi {j i : Nat} {E : List Blk} (h : i + E.length ≤ j) : lkB (extB E i) j = none := by
  have := lkB_ext_hi (L := []) (E := E) h
  rwa [List.append_nil] at this
theorem lkB_fam_in {i k : Nat} {E : List Blk} {b : Blk} (h : E[k]? = some b) : lkB (extB E i) (i + k) = some b := by
  have := lkB_ext_in (L := []) (i := i) h
  rwa [List.append_nil] at this
theorem subB_fam {L L' : Nat → Option Blk} : ∀ (E : List Blk) (i : Nat), (∀ k b, E[k]? = some b → L (i + k) = some b ∧ blkOK L' b) → subB L L' (extB E i)
  | [], i, _ => trivial
  | b :: E, i, h => by
    refine ⟨.inl (h 0 b rfl), subB_fam E (i + 1) (fun k c hk => ?_)⟩
    have := h (k + 1) c (by simpa using hk)
    rwa [show i + 1 + k = i + (k + 1) by omega]
theorem subB_ext {L L' : Nat → Option Blk} {r : List (Nat × Blk)} (hr : subB L L' r) : ∀ (E : List Blk) (i : Nat), (∀ k b, E[k]? = some b → L (i + k) = some b ∧ blkOK L' b) → subB L L' (extB E i ++ r)
  | [], i, _ => hr
  | b :: E, i, h => by
    refine ⟨.inl (h 0 b rfl), subB_ext hr E (i + 1) (fun k c hk => ?_)⟩
    have := h (k + 1) c (by simpa using hk)
    rwa [show i + 1 + k = i + (k + 1) by omega]
theorem swap_lk_ne {s : St} {a b j : Nat} (h1 : j ≠ a) (h2 : j ≠ b) : (s.swap a b).lk j = (s.lk j).map (renB (swapN a b)) := by
  rw [swap_lk]; simp [swapN, h1, h2]
theorem swap_lk_r {s : St} {a b : Nat} : (s.swap a b).lk b = (s.lk a).map (renB (swapN a b)) := by
  rw [swap_lk]
  by_cases h : b = a
  · subst h; simp [swapN]
  · simp [swapN, h]
theorem idsOKL_of {L : Nat → Option Blk} : ∀ {l : List AV}, (∀ a ∈ l, idsOK L a) → idsOKL L l
  | [], _ => trivial
  | a :: r, h => ⟨h a (by simp), idsOKL_of (fun b hb => h b (by simp [hb]))⟩
end Go.Abs
