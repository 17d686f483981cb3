import Derived.Test.YtoegojolimaodaaGreatDoorShRB
section
set_option linter.unusedVariables false
set_option linter.unusedSimpArgs false
namespace Go.Abs
def argT : List AV → Nat → List (Nat × AV)
  | [], _ => []
  | a :: r, i => (i, a) :: argT r (i + 1)
def extB : List Blk → Nat → List (Nat × Blk)
  | [], _ => []
  | b :: r, i => (i, b) :: extB r (i + 1)
def St.init (E : List Blk) (args : List AV) : St := ⟨argT args 0, extB E 0⟩
theorem argT_get (t : Nat) : ∀ (l : List AV) (i : Nat), lkA (argT l i) t = if t < i then .any else l.getD (t - i) .any
  | [], i => by simp [argT, lkA]
  | a :: r, i => by
    simp only [argT, lkA]
    by_cases e : i = t
    · subst e; simp
    · rw [if_neg e, argT_get t r (i + 1)]
      by_cases h : t < i
      · rw [if_pos h, if_pos (by omega)]
      · rw [if_neg h, if_neg (by omega), show t - i = (t - (i + 1)) + 1 by omega]
        simp
theorem extB_get (t : Nat) : ∀ (l : List Blk) (i : Nat), lkB (extB l i) t = if t < i then none else l[t - i]?
  | [], i => by simp [extB, lkB]
  | a :: r, i => by
    simp only [extB, lkB]
    by_cases e : i = t
    · subst e; simp
    · rw [if_neg e, extB_get t r (i + 1)]
      by_cases h : t < i
      · rw [if_pos h, if_pos (by omega)]
      · rw [if_neg h, if_neg (by omega), show t - i = (t - (i + 1)) + 1 by omega]
        simp
def sigX (m : Nat) (xs : List Nat) (i : Nat) : Nat := if i < m then i else xs.getD (i - m) deadId
def okX (m : Nat) : List Nat → Prop
  | [] => True
  | x :: r => m ≤ x ∧ x < deadId ∧ x ∉ r ∧ okX m r
def packV : List Value → Value
  | [v] => v
  | l => .tuple l.toArray
def resAV : List AV → AV
  | [r] => r
  | l => .tuple l
theorem rdLoad_addr {P : Program} {L : Nat → Option Blk} {t : TypeId} {x v' : AV} {p : Prop} {w : World} {ok : Nat → Nat → Prop} {φ : Nat → Option Nat} {vx : Value} (h : rdLoad P L t x = some (v', p)) (hx : R w ok L φ x vx) : ∃ pa, vx = .pointer (some pa) := by
  unfold rdLoad at h
  replace hx := hx.norm1
  generalize norm1 L x = y at h hx
  unfold rdLoad0 at h
  split at h
  · cases hx with
    | pure _ _ hx => cases hx; exact ⟨_, rfl⟩
  · cases hx with
    | pure _ _ hx => cases hx
    | ptr => exact ⟨_, rfl⟩
  · cases h
def resR (P : Program) (L : Nat → Option Blk) (g : Nat → AV) : List ResultVar → Option (List AV × Prop)
  | [] => some ([], True)
  | .tmp t :: r => match resR P L g r with
    | some (l, p) => some (g t :: l, p)
    | none => none
  | .cell a t :: r => match rdLoad P L t (g a).un, resR P L g r with
    | some (v, q), some (l, p) => some (v :: l, (g a).uc ∧ q ∧ p)
    | _, _ => none
def rvOf (tm : Array Value) : ResultVar → Sem Value
  | .tmp t => pure (tm.getD t undef)
  | .cell a t => do loadVar t (← asAddr (tm.getD a undef))
theorem results_eq (fn : Func) (tm : Array Value) : results fn tm = (do let vs ← fn.results.mapM (rvOf tm); pure (if h : vs.size = 1 then vs[0] else .tuple vs)) := by
  have e : (fun r => match r with
    | ResultVar.tmp t => (pure (tm.getD t undef) : Sem Value)
    | .cell a t => do loadVar t (← asAddr (tm.getD a undef))) = rvOf tm := by
    funext r; cases r <;> rfl
  unfold results
  exact congrArg (fun f => (do let vs ← fn.results.mapM f; pure (if h : vs.size = 1 then vs[0] else .tuple vs) : Sem Value)) e
theorem resR_ok {P : Program} {w : World} {ok : Nat → Nat → Prop} {L : Nat → Option Blk} {φ : Nat → Option Nat} {g : Nat → AV} {tm : Array Value} (hh : HeapOK w ok L φ) (hg : ∀ t, R w ok L φ (g t) (tm.getD t undef)) :
    ∀ (rl : List ResultVar) (l : List AV) (p : Prop), resR P L g rl = some (l, p) → p → l.length = rl.length ∧ ∃ vs : List Value, vs.length = l.length ∧ (∀ (i : Nat) (a : AV) (v : Value), l[i]? = some a → vs[i]? = some v → R w ok L φ a v) ∧
      (rl.mapM (rvOf tm)).run P w = .ok vs w
  | [], l, p, h, hp => by
    simp only [resR, Option.some.injEq, Prod.mk.injEq] at h
    obtain ⟨rfl, rfl⟩ := h
    exact ⟨rfl, [], rfl, fun i a v hi => by simp at hi, by simp⟩
  | .tmp t :: r, l, p, h, hp => by
    simp only [resR] at h
    split at h <;> simp only [Option.some.injEq, Prod.mk.injEq, reduceCtorEq] at h
    rename_i l1 p1 h1
    obtain ⟨rfl, rfl⟩ := h
    obtain ⟨g1, vs, g2, g3, g4⟩ := resR_ok hh hg r l1 p1 h1 hp
    refine ⟨by simp [g1], tm.getD t undef :: vs, by simp [g2], fun i a v ha hv => ?_, ?_⟩
    · cases i with
      | zero => simp at ha hv; subst ha; subst hv; have := hg t; simpa using this
      | succ i => exact g3 i a v (by simpa using ha) (by simpa using hv)
    · rw [List.mapM_cons, Sem.run_bind]
      simp only [rvOf, Sem.run_pure, Result.andThen_ok, Sem.run_bind, g4]
  | .cell a t :: r, l, p, h, hp => by
    simp only [resR] at h
    split at h <;> simp only [Option.some.injEq, Prod.mk.injEq, reduceCtorEq] at h
    rename_i v1 q1 l1 p1 h0 h1
    obtain ⟨rfl, rfl⟩ := h
    obtain ⟨hu, hq, hp1⟩ := hp
    obtain ⟨v, k1, k2⟩ := rdLoad_ok h0 hq hh ((hg a).un hu)
    obtain ⟨pa, hpa⟩ := rdLoad_addr h0 ((hg a).un hu)
    obtain ⟨g1, vs, g2, g3, g4⟩ := resR_ok hh hg r l1 p1 h1 hp1
    refine ⟨by simp [g1], v :: vs, by simp [g2], fun i a v ha hv => ?_, ?_⟩
    · cases i with
      | zero => simp at ha hv; subst ha; subst hv; exact k2
      | succ i => exact g3 i a v (by simpa using ha) (by simpa using hv)
    · rw [List.mapM_cons, Sem.run_bind]
      have : (rvOf tm (.cell a t)).run P w = .ok v w := by
        rw [← k1]; simp only [rvOf, Instr.loadAt, hpa, asAddr, Instr.sureAddr]
      simp only [this, Sem.run_pure, Result.andThen_ok, Sem.run_bind, g4]
theorem results_run {P : Program} {fn : Func} {w w' : World} {tm : Array Value} {rl : List ResultVar} {vs : List Value} (h : fn.results = rl.toArray) (hr : (rl.mapM (rvOf tm)).run P w = .ok vs w') :
    (results fn tm).run P w = .ok (packV vs) w' := by
  rw [results_eq, h, List.mapM_toArray, Sem.run_bind]
  simp only [map_eq_pure_bind, Sem.run_bind, hr, Result.andThen_ok, Sem.run_pure]
  rcases vs with _ | ⟨v, _ | ⟨u, vs⟩⟩ <;> simp [packV]
def subS (L L' : Nat → Option Blk) : List AV → List AV → Prop
  | [], [] => True
  | v :: r, v' :: r' => slotOK L L' v v' ∧ subS L L' r r'
  | _, _ => False
def Ret (P : Program) (m : Nat) (rl : List ResultVar) (E' : List Blk) (res : List AV) (st : St) : Prop :=
  ∃ l p xs, resR P st.lk st.get rl = some (l, p) ∧ p ∧ okX m xs ∧ E'.length = m + xs.length ∧ subS st.lk (lkB (newBlks (sigX m xs) E' 0)) l (renL (sigX m xs) res) ∧
    subB st.lk (lkB (newBlks (sigX m xs) E' 0)) (newBlks (sigX m xs) E' 0) ∧ extsOK st.lk (lkB (newBlks (sigX m xs) E' 0)) m ∧ st.lk defId = none
def FinR (P : Program) (m : Nat) (rl : List ResultVar) (E' : List Blk) (res : List AV) : Ex → St → Prop
  | .exit _, _ => False
  | .normal, st => Ret P m rl E' res st
  | .ret, st => Ret P m rl E' res st
def subP (L L' : Nat → Option Blk) : List AV → List AV → Prop
  | [], [] => True
  | v :: r, v' :: r' => slotE L L' v v' ∧ subP L L' r r'
  | _, _ => False
def noAny : List AV → Bool
  | [] => true
  | .any :: _ => false
  | _ :: r => noAny r
theorem subP_ok {L L' : Nat → Option Blk} : ∀ {l l' : List AV}, noAny l' = true → subP L L' l l' → subS L L' l l'
  | [], [], _, _ => trivial
  | [], _ :: _, _, h => h
  | _ :: _, [], _, h => h
  | v :: r, v' :: r', hn, h => by
    have h1 : v' ≠ .any := fun e => by subst e; simp [noAny] at hn
    have h2 : noAny r' = true := by cases v' <;> first | exact hn | exact absurd rfl h1
    rcases slotE_ok h.1 with h3 | h3
    · exact absurd h3 h1
    · exact ⟨h3, subP_ok h2 h.2⟩
def resT (k : Nat) : List AV → List (Nat × AV)
  | [] => []
  | v :: s => (k, v) :: resT (k + 1) s
theorem resT_get (rest : List (Nat × AV)) (t : Nat) : ∀ (l : List AV) (k : Nat), lkA (resT k l ++ rest) t = if k ≤ t ∧ t < k + l.length then l.getD (t - k) .any else lkA rest t
  | [], k => by simp [resT]; omega
  | v :: s, k => by
    simp only [resT, List.cons_append, lkA]
    by_cases e : k = t
    · subst e; simp
    · rw [if_neg e, resT_get rest t s (k + 1)]
      by_cases h : k + 1 ≤ t ∧ t < k + 1 + s.length
      · rw [if_pos h, if_pos (by simp; omega), show t - k = (t - (k + 1)) + 1 by omega]
        simp
      · rw [if_neg h, if_neg (by simp; omega)]
theorem resT_sub {st : St} {L' : Nat → Option Blk} : ∀ (l l' : List AV) (k : Nat), subS st.lk L' l l' → (∀ i, i < l.length → st.get (k + i) = l.getD i .any) → subT st L' (resT k l')
  | [], [], k, _, _ => trivial
  | [], _ :: _, k, h, _ => h.elim
  | _ :: _, [], k, h, _ => h.elim
  | v :: r, v' :: r', k, h, hg => by
    refine ⟨?_, resT_sub r r' (k + 1) h.2 (fun i hi => ?_)⟩
    · have := hg 0 (by simp)
      simp only [Nat.add_zero] at this
      rw [this]; exact h.1
    · have := hg (i + 1) (by simpa using hi)
      rw [show k + 1 + i = k + (i + 1) by omega, this]; simp
theorem subS_len {L L' : Nat → Option Blk} : ∀ {l l' : List AV}, subS L L' l l' → l.length = l'.length
  | [], [], _ => rfl
  | [], _ :: _, h => h.elim
  | _ :: _, [], h => h.elim
  | v :: r, v' :: r', h => by simp [subS_len h.2]
theorem okX_mem {m : Nat} : ∀ {xs : List Nat}, okX m xs → ∀ x ∈ xs, m ≤ x ∧ x < deadId
  | [], _, x, h => by simp at h
  | a :: r, h, x, hx => by
    rcases List.mem_cons.1 hx with rfl | hx
    · exact ⟨h.1, h.2.1⟩
    · exact okX_mem h.2.2.2 x hx
theorem okX_nodup {m : Nat} : ∀ {xs : List Nat}, okX m xs → xs.Nodup
  | [], _ => List.nodup_nil
  | a :: r, h => List.nodup_cons.2 ⟨h.2.2.1, okX_nodup h.2.2.2⟩
theorem sigX_inj {m : Nat} {xs : List Nat} (h : okX m xs) : ∀ i j, i < m + xs.length → j < m + xs.length → sigX m xs i = sigX m xs j → i = j := by
  intro i j hi hj e
  have get : ∀ k, ¬ k < m → k < m + xs.length → ∃ hk : k - m < xs.length, sigX m xs k = xs[k - m] := fun k h1 h2 => ⟨by omega, by
    simp only [sigX, if_neg h1]
    rw [List.getD_eq_getElem?_getD, List.getElem?_eq_getElem (by omega)]; rfl⟩
  by_cases h1 : i < m <;> by_cases h2 : j < m
  · simpa [sigX, h1, h2] using e
  · obtain ⟨hk, e2⟩ := get j h2 hj
    rw [e2] at e
    simp only [sigX, if_pos h1] at e
    have := (okX_mem h _ (List.getElem_mem hk)).1
    omega
  · obtain ⟨hk, e2⟩ := get i h1 hi
    rw [e2] at e
    simp only [sigX, if_pos h2] at e
    have := (okX_mem h _ (List.getElem_mem hk)).1
    omega
  · obtain ⟨hk, e2⟩ := get i h1 hi
    obtain ⟨hk', e3⟩ := get j h2 hj
    rw [e2, e3] at e
    have := (List.getElem_inj (okX_nodup h)).1 e
    omega
theorem resAV_R {w ok L φ} {res : List AV} {vs : List Value} (hl : vs.length = res.length) (h : ∀ (i : Nat) (a : AV) (v : Value), res[i]? = some a → vs[i]? = some v → R w ok L φ a v) :
    R w ok L φ (resAV res) (packV vs) := by
  rcases res with _ | ⟨a, _ | ⟨b, r⟩⟩
  · rcases vs with _ | ⟨v, vs⟩
    · exact .tuple [] [] rfl h
    · simp at hl
  · rcases vs with _ | ⟨v, _ | ⟨u, vs⟩⟩
    · simp at hl
    · exact h 0 a v rfl rfl
    · simp at hl
  · rcases vs with _ | ⟨v, _ | ⟨u, vs⟩⟩
    · simp at hl
    · simp at hl
    · exact .tuple (a :: b :: r) (v :: u :: vs) hl h
theorem Keeps.back {w ok L φ w' ok' L' φ' ok'' E' σ V} (k : Keeps w ok L φ w' ok' L' φ') (hs : Hands L' E' σ V E'.length) (hid : ∀ i, L i ≠ none → σ i = i) (hok : ∀ b o, ok' b o → ok'' b o) :
    Keeps w ok L φ w' ok'' (lkE E') (fun i => φ' (σ i)) := by
  refine ⟨fun b o hb => hok _ _ (k.okUp b o hb), k.cell, fun id sz ro d c hL => ?_, fun id bb hL hcc => ?_⟩
  · obtain ⟨ro', d', c', h1, h2, h3⟩ := k.cells id sz ro d c hL
    have e := hid id (by rw [hL]; simp)
    rw [← e] at h1
    obtain ⟨b', h4, h5⟩ := hs.back _ _ h1
    cases b' <;> simp only [renB, Blk.cells.injEq, reduceCtorEq] at h5
    obtain ⟨rfl, rfl, rfl, rfl⟩ := h5
    refine ⟨_, _, _, h4, by simpa using h2, fun e2 => ?_⟩
    simp only [e]
    exact h3 (by simpa using e2)
  · obtain ⟨b1, h1, h2, h3⟩ := k.obj id bb hL hcc
    have e := hid id (by rw [hL]; simp)
    rw [← e] at h1
    obtain ⟨b', h4, h5⟩ := hs.back _ _ h1
    subst h5
    exact ⟨_, h4, Blk.same_trans h2 (renB_same' (Blk.same_notC h2)), by simp only [e]; exact h3⟩
theorem Sim.post {N : Nat} {E E' : List Blk} {φ : Nat → Option Nat} {ok : Nat → Nat → Prop} {w w' : World} {st' : St} {ok1 : Nat → Nat → Prop} {φ1 : Nat → Option Nat} {a' : Act} {l res : List AV} {vs' : List Value} {xs : List Nat}
    (hS1 : Sim N (lkE E) φ ok w st' ok1 φ1 a' w') (hEd : E.length ≤ deadId) (hvl : vs'.length = l.length) (hvr : ∀ (i : Nat) (a : AV) (v : Value), l[i]? = some a → vs'[i]? = some v → R w' ok1 st'.lk φ1 a v)
    (h1 : okX E.length xs) (h2 : E'.length = E.length + xs.length) (h5 : subS st'.lk (lkB (newBlks (sigX E.length xs) E' 0)) l (renL (sigX E.length xs) res))
    (h6 : subB st'.lk (lkB (newBlks (sigX E.length xs) E' 0)) (newBlks (sigX E.length xs) E' 0)) (h7 : extsOK st'.lk (lkB (newBlks (sigX E.length xs) E' 0)) E.length) :
    ∃ ok' φ', PostE w ok (lkE E) φ w' ok' φ' (lkE E') (resAV res) (packV vs') := by
  have hlr := subS_len h5
  rw [renL_eq, List.length_map] at hlr
  -- the results beside the slots
  have hSx : Sim (N + vs'.length) (lkE E) φ ok w ⟨resT N l ++ st'.tmps, st'.L⟩ ok1 φ1 { a' with tmps := a'.tmps ++ vs'.toArray } w' := by
    refine ⟨fun t => ?_, by simp [hS1.size], hS1.defers, hS1.heap, hS1.kept, hS1.frame, hS1.own, hS1.okDn⟩
    show R w' ok1 st'.lk φ1 (lkA (resT N l ++ st'.tmps) t) _
    rw [resT_get]
    by_cases ht : N ≤ t ∧ t < N + l.length
    · rw [if_pos ht]
      have e1 : l[t - N]? = some (l[t - N]'(by omega)) := List.getElem?_eq_getElem _
      have e2 : vs'[t - N]? = some (vs'[t - N]'(by omega)) := List.getElem?_eq_getElem _
      have : (a'.tmps ++ vs'.toArray).getD t undef = vs'[t - N]'(by omega) := by
        rw [Array.getD_eq_getD_getElem?, Array.getElem?_append_right (by rw [hS1.size]; omega), hS1.size]
        simp [e2]
      rw [this, List.getD_eq_getElem?_getD, e1]
      exact hvr _ _ _ e1 e2
    · rw [if_neg ht]
      by_cases ht2 : t < N
      · have : (a'.tmps ++ vs'.toArray).getD t undef = a'.tmps.getD t undef := by
          rw [Array.getD_eq_getD_getElem?, Array.getElem?_append_left (by rw [hS1.size]; omega), ← Array.getD_eq_getD_getElem?]
        rw [this]; exact hS1.slots t
      · have : (a'.tmps ++ vs'.toArray).getD t undef = a'.tmps.getD t undef := by
          rw [Array.getD_eq_getD_getElem?, Array.getD_eq_getD_getElem?, Array.getElem?_eq_none (by simp [hS1.size]; omega), Array.getElem?_eq_none (by rw [hS1.size]; omega)]
        rw [this]; exact hS1.slots t
  obtain ⟨ok2, φ2, hS2⟩ := hSx.weak0 (m := E.length) (st' := ⟨resT N (renL (sigX E.length xs) res), newBlks (sigX E.length xs) E' 0⟩) (fun i hi => by
    rcases Nat.lt_or_ge i E.length with h' | h'
    · exact h'
    · exact absurd (List.getElem?_eq_none_iff.2 h') hi) ⟨resT_sub l _ N h5 (fun i hi => by
      show lkA (resT N l ++ st'.tmps) (N + i) = _
      rw [resT_get, if_pos (by omega), Nat.add_sub_cancel_left]), h6, h7⟩
  have hinj : ∀ i j, i < E'.length → j < E'.length → sigX E.length xs i = sigX E.length xs j → i = j := fun i j hi hj e => sigX_inj h1 i j (by omega) (by omega) e
  have hlook : ∀ j, lkB (newBlks (sigX E.length xs) E' 0) j = match (List.range' 0 E'.length).find? (fun k => sigX E.length xs k == j) with | some k => (E'[k - 0]?).map (renB (sigX E.length xs)) | none => none := fun j => by
    have := newBlks_lk (sigX E.length xs) j [] E' 0 (fun a b _ ha _ hb e => hinj a b (by omega) (by omega) e)
    rw [List.append_nil] at this
    rw [this]
    cases (List.range' 0 E'.length).find? (fun k => sigX E.length xs k == j) <;> rfl
  have hands : Hands (lkB (newBlks (sigX E.length xs) E' 0)) E' (sigX E.length xs) [] E'.length := by
    refine ⟨fun i b hb => ⟨?_, by simp⟩, fun i hi => ?_, hinj, Nat.le_refl _⟩
    · have hi := (List.getElem?_eq_some_iff.1 hb).1
      rw [hlook, ← List.range_eq_range', find_self hinj hi]
      simp [hb]
    · rw [hlook, ← List.range_eq_range']
      have hσ : sigX E.length xs i = deadId := by
        simp only [sigX]
        rw [if_neg (by omega), List.getD_eq_getElem?_getD, List.getElem?_eq_none (by omega)]; rfl
      rw [hσ]
      cases hf : (List.range E'.length).find? (fun k => sigX E.length xs k == deadId) with
      | none => rfl
      | some k =>
        obtain ⟨g1, g2⟩ := find_some hf
        exfalso
        simp only [sigX] at g2
        by_cases hk : k < E.length
        · rw [if_pos hk] at g2; omega
        · rw [if_neg hk, List.getD_eq_getElem?_getD, List.getElem?_eq_getElem (by omega)] at g2
          have := (okX_mem h1 _ (List.getElem_mem (l := xs) (n := k - E.length) (by omega))).2
          simp only [Option.getD_some] at g2
          omega
  have hheap := hS2.heap.callee hands
  refine ⟨_, _, ⟨hS2.frame, hheap, ?_, hS2.kept.back hands (fun i hi => ?_) (fun _ _ h => .inl h), fun i b hi => hS2.own _ b hi, fun b o hb => ?_⟩⟩
  · refine resAV_R (vs := vs') (by omega) (fun i a v ha hv => ?_)
    have hi := (List.getElem?_eq_some_iff.1 ha).1
    have hslot := hS2.slots (N + i)
    have hget : St.get ⟨resT N (renL (sigX E.length xs) res), newBlks (sigX E.length xs) E' 0⟩ (N + i) = Abs.ren (sigX E.length xs) a := by
      have := resT_get [] (N + i) (renL (sigX E.length xs) res) N
      rw [List.append_nil] at this
      show lkA _ _ = _
      rw [this, if_pos (by rw [renL_eq, List.length_map]; omega), Nat.add_sub_cancel_left, List.getD_eq_getElem?_getD]
      simp [renL_eq, ha]
    have hval : (a'.tmps ++ vs'.toArray).getD (N + i) undef = v := by
      rw [Array.getD_eq_getD_getElem?, Array.getElem?_append_right (by rw [hS1.size]; omega), hS1.size]
      simp [hv]
    rw [hget] at hslot
    simp only [hval] at hslot
    refine R.unren (sigX E.length xs) (fun j b hb => ?_) (fun _ _ h => .inl h) hslot a rfl
    obtain ⟨b', g1, g2⟩ := hands.back j b hb
    exact ⟨b', g1, g2, rfl⟩
  · have : i < E.length := by
      rcases Nat.lt_or_ge i E.length with h' | h'
      · exact h'
      · exact absurd (List.getElem?_eq_none_iff.2 h') hi
    simp [sigX, this]
  · rcases hb with hb | ⟨id, hid, g1, g2⟩
    · exact hS2.okDn b o hb
    · simp at hid
theorem drain {P : Program} {N : Nat} {L0 : Nat → Option Blk} {φ0 : Nat → Option Nat} {ok0 : Nat → Nat → Prop} {w0 : World} {st : St} {ok : Nat → Nat → Prop} {φ : Nat → Option Nat} {a : Act} {fn : Func} {tm : Array Value} {R : Ending → World → Prop}
    {w : World} (hS : Sim N L0 φ0 ok0 w0 st ok φ a w) (hd : a.defers = []) : ∀ (old : List Nat), old.Nodup → (∀ b ∈ old, w0.heap.size ≤ b ∧ OldOK w ok φ b) →
    (∀ {w2 : World}, Sim N L0 φ0 ok0 w0 st ok φ a w2 → ∃ v, (results fn tm).run P w2 = .ok v w2 ∧ R (.returned v) w2) → LeavesInM Fence.wide 0 P fn tm R (old.flatMap markOf) .returning w
  | [], _, _, fin => fin hS
  | b :: old, hn, ho, fin => by
    obtain ⟨h1, h2⟩ := List.nodup_cons.1 hn
    obtain ⟨g1, g2⟩ := ho b List.mem_cons_self
    refine ⟨by simp, .inl ⟨b, _, rfl, run_takeDeferred g2.at_, ?_⟩⟩
    refine drain (w := w.putObj b (.deferred none)) (hS.other (w' := w.putObj b (.deferred none)) hd g1 g2 rfl rfl rfl (by simp) (fun k hk => World.putObj_heap_other hk)) hd old h2 (fun x hx => ?_) fin
    obtain ⟨g3, g4⟩ := ho x (List.mem_cons_of_mem _ hx)
    exact ⟨g3, by rw [World.putObj_heap_other (fun e => h1 (by rw [← e]; exact hx))]; exact g4.at_, g4.name, g4.shut⟩
theorem spec_of {P : Program} {C : Tbl} {wr : Bool} {D : Nat → List Nat} {U : Nat → Option CutS} {f N : Nat} {fn : Func} {c : Code} {rl : List ResultVar} {E E' : List Blk} {args res : List AV}
    (hm : P.follows .mixedOrders = true) (hC : TblOK P C) (hcl : callable P f = true) (hy : f ≠ yldF) (hf : P.funcs[f]? = some fn) (hb : fn.body = some c) (hN : fn.ntmps = N) (hrs : fn.results = rl.toArray)
    (hok : (codeOK P N D c && decide (args.length ≤ N) && decide (E.length ≤ deadId)) = true)
    (h : W P C wr D U E.length c (St.init E args) (FinR P E.length rl E' res)) : SpecE P f E args E' (resAV res) := by
  simp only [Bool.and_eq_true, decide_eq_true_eq] at hok
  obtain ⟨⟨hok, hal⟩, hEd⟩ := hok
  intro w ok φ vs hh hl hr
  refine CallsX.calls hcl hy ?_
  refine (callsIn_wide (n := 0)).1 (callsIn_of_wp_marks hf hb trivial ?_)
  have hlk : ∀ i, (St.init E args).lk i = lkE E i := fun i => by simp [St.lk, St.init, extB_get, lkE]
  have hlk' : (St.init E args).lk = lkE E := funext hlk
  have hS : Sim N (lkE E) φ ok w (St.init E args) ok φ { tmps := vs.toArray ++ Array.replicate (fn.ntmps - vs.toArray.size) undef, defers := [] } w := by
    refine ⟨fun t => ?_, ?_, .nil, by rw [hlk']; exact hh, by rw [hlk']; exact Keeps.refl _ _ _ _, Fr.refl _ _, fun id b hb => .inl ⟨id, hb⟩, fun b o hb => .inl hb⟩
    · rw [hlk']
      simp only [St.get, St.init, argT_get, Nat.not_lt_zero, if_false, Nat.sub_zero]
      by_cases ht : t < args.length
      · have h1 : args[t]? = some args[t] := List.getElem?_eq_getElem ht
        have h2 : vs[t]? = some vs[t] := List.getElem?_eq_getElem (by omega)
        rw [List.getD_eq_getElem?_getD, h1]
        have : (vs.toArray ++ Array.replicate (fn.ntmps - vs.toArray.size) undef).getD t undef = vs[t] := by
          rw [Array.getD_eq_getD_getElem?, Array.getElem?_append_left (by simp; omega)]
          simp [h2]
        simp only [this, Option.getD_some]
        exact hr t _ _ h1 h2
      · rw [List.getD_eq_getElem?_getD, List.getElem?_eq_none (by omega)]
        exact .pure _ _ (.any _)
    · simp [hl, hN]; omega
  refine wpIn_mono (W_wp (.inl rfl) (N := N) (L0 := lkE E) (φ0 := φ) (ok0 := ok) (w0 := w) hm hC (fun i hi => by
      rcases Nat.lt_or_ge i E.length with h' | h'
      · exact h'
      · exact absurd (List.getElem?_eq_none_iff.2 h') hi) c _ _ ok φ _ w (.inl rfl) hok (fun e s t he hs => ?_) h hS) (fun e a' w' hp => ?_)
  · have k : ∀ {s t}, StEq s t → Ret P E.length rl E' res s → Ret P E.length rl E' res t := by
      rintro s t he ⟨l, p, xs, h1, h2, h3, h4, h5, h6, h7⟩
      refine ⟨l, p, xs, by rw [← he.2, ← he.1]; exact h1, h2, h3, h4, by rw [← he.2]; exact h5, by rw [← he.2]; exact h6, by rw [← he.2]; exact h7.1, by rw [← he.2]; exact h7.2⟩
    cases e with
    | normal => exact k he hs
    | exit i => exact hs
    | ret => exact k he hs
  · obtain ⟨e', st', ok1, φ1, rfl, hq, hS1⟩ := hp
    have main : Ret P E.length rl E' res st' → LeavesInM Fence.wide 0 P fn a'.tmps (fun e w' => ∃ v ok' φ', e = .returned v ∧ PostE w ok (lkE E) φ w' ok' φ' (lkE E') (resAV res) v) a'.defers .returning w' := by
      rintro ⟨l, p, xs, hres, hp, h1, h2, h5, h6, h7, h8⟩
      have fin : ∀ {w2 : World}, Sim N (lkE E) φ ok w st' ok1 φ1 { a' with defers := [] } w2 → ∃ v, (results fn a'.tmps).run P w2 = .ok v w2 ∧ ∃ v' ok' φ', Ending.returned v = .returned v' ∧ PostE w ok (lkE E) φ w2 ok' φ' (lkE E') (resAV res) v' := by
        intro w2 S2
        obtain ⟨hll, vs', hvl, hvr, hrun⟩ := resR_ok S2.heap S2.slots rl l p hres hp
        obtain ⟨ok2, φ2, post⟩ := S2.post hEd hvl hvr h1 h2 h5 h6 h7
        exact ⟨_, results_run hrs hrun, _, ok2, φ2, rfl, post⟩
      obtain ⟨cur, old, e1, e2, e3, e4⟩ := hS1.defers
      have hc : cur = [] := by
        rcases e4 with g1 | ⟨b, g1, _⟩
        · exact g1
        · rw [h8] at g1; cases g1
      rw [e1, hc, List.nil_append]
      exact drain (a := { a' with defers := [] }) ⟨hS1.slots, hS1.size, .nil, hS1.heap, hS1.kept, hS1.frame, hS1.own, hS1.okDn⟩ rfl old e2 e3 fin
    cases e' with
    | normal => exact main hq
    | exit i => exact hq.elim
    | ret => exact main hq
def bodyOf (f : Func) : Code := match f.body with | some c => c | none => .skip
def rlOf (f : Func) : List ResultVar := f.results.toList
def fnOK (P : Program) (f : Func) (D : Nat → List Nat) (nE nA : Nat) : Bool :=
  f.body.isSome && codeOK P f.ntmps D (bodyOf f) && decide (nA ≤ f.ntmps) && decide (nE ≤ defId) && (!(f.name == "runtime.NumGoroutine") && decide (P.funcs.size ≤ 1000000))
theorem fnOK_call {P : Program} {f : Nat} {fn : Func} {D : Nat → List Nat} {nE nA : Nat} (hf : P.funcs[f]? = some fn) (h : fnOK P fn D nE nA = true) : callable P f = true ∧ f ≠ yldF := by
  simp only [fnOK, Bool.and_eq_true, decide_eq_true_eq] at h
  obtain ⟨⟨⟨⟨h1, _⟩, _⟩, _⟩, h2, h3⟩ := h
  refine ⟨by simp only [callable, hf, h1, h2, Bool.and_self], fun e => ?_⟩
  have := (Array.getElem?_eq_some_iff.1 hf).1
  simp only [yldF] at e
  omega
theorem specF {P : Program} {C : Tbl} {wr : Bool} {D : Nat → List Nat} {U : Nat → Option CutS} {f : Nat} {fn : Func} {E E' : List Blk} {args res : List AV} {nE nA : Nat}
    (hm : P.follows .mixedOrders = true) (hC : TblOK P C) (hf : P.funcs[f]? = some fn) (hok : fnOK P fn D nE nA = true) (hE : E.length = nE) (hA : args.length = nA)
    (h : W P C wr D U nE (bodyOf fn) (St.init E args) (FinR P nE (rlOf fn) E' res)) : SpecE P f E args E' (resAV res) := by
  obtain ⟨hcl, hy⟩ := fnOK_call hf hok
  simp only [fnOK, Bool.and_eq_true, decide_eq_true_eq] at hok
  obtain ⟨⟨⟨⟨h1, h2⟩, h3⟩, h4⟩, _⟩ := hok
  subst hE hA
  refine spec_of (rl := rlOf fn) (N := fn.ntmps) (c := bodyOf fn) hm hC hcl hy hf ?_ rfl (by simp [rlOf]) ?_ h
  · unfold bodyOf
    cases hb : fn.body with
    | none => rw [hb] at h1; cases h1
    | some c => rfl
  · simp only [Bool.and_eq_true, decide_eq_true_eq]
    exact ⟨⟨h2, h3⟩, by simp only [deadId, defId] at h4 ⊢; omega⟩
def FinS (P : Program) (rl : List ResultVar) (res : List AV) : Ex → St → Prop
  | .exit _, _ => False
  | .normal, st => match resR P st.lk st.get rl with
    | some (l, p) => p ∧ noAny res = true ∧ subP st.lk (fun _ => none) l res ∧ st.lk defId = none
    | none => False
  | .ret, st => match resR P st.lk st.get rl with
    | some (l, p) => p ∧ noAny res = true ∧ subP st.lk (fun _ => none) l res ∧ st.lk defId = none
    | none => False
theorem ret0 {P : Program} {rl : List ResultVar} {res : List AV} {st : St} (hp : ∀ σ, renL σ res = res) (h : match resR P st.lk st.get rl with
    | some (l, p) => p ∧ noAny res = true ∧ subP st.lk (fun _ => none) l res ∧ st.lk defId = none
    | none => False) : Ret P 0 rl [] res st := by
  split at h
  · rename_i l p hr
    exact ⟨l, p, [], hr, h.1, trivial, rfl, by rw [hp]; exact subP_ok h.2.1 h.2.2.1, trivial, .inl h.2.2.2, h.2.2.2⟩
  · exact h.elim
theorem specF0 {P : Program} {C : Tbl} {wr : Bool} {D : Nat → List Nat} {U : Nat → Option CutS} {f : Nat} {fn : Func} {args res : List AV} {nA : Nat}
    (hm : P.follows .mixedOrders = true) (hC : TblOK P C) (hf : P.funcs[f]? = some fn) (hok : fnOK P fn D 0 nA = true) (hA : args.length = nA) (hp : ∀ σ, renL σ res = res)
    (h : W P C wr D U 0 (bodyOf fn) (St.init [] args) (FinS P (rlOf fn) res)) : SpecE P f [] args [] (resAV res) := by
  refine specF hm hC hf hok rfl hA (W_mono _ _ _ _ (fun e s hs => ?_) h)
  cases e with
  | normal => exact ret0 hp hs
  | exit i => exact hs
  | ret => exact ret0 hp hs
def nilT : Tbl := fun _ _ _ => none
def orT (a b : Option (List Blk × AV × Prop)) : Option (List Blk × AV × Prop) := match a with | some r => some r | none => b
theorem orT_some {r b} : orT (some r) b = some r := rfl
theorem orT_none {b} : orT none b = b := rfl
def addT (C : Tbl) (f : FuncId) (c : List Blk → List AV → Option (List Blk × AV × Prop)) : Tbl := fun g E args => if g = f then orT (c E args) (C g E args) else C g E args
theorem nilT_ok {P : Program} : TblOK P nilT := fun f E args E' res p h => by simp [nilT] at h
theorem addT_ok {P : Program} {C : Tbl} {f : FuncId} {c : List Blk → List AV → Option (List Blk × AV × Prop)} (h : TblOK P C) (hc : (callable P f || true) = true)
    (hs : ∀ E args E' res p, c E args = some (E', res, p) → p → SpecE P f E args E' res) : TblOK P (addT C f c) := by
  intro g E args E' res p hg
  simp only [addT] at hg
  split at hg
  · rename_i e
    subst e
    cases hce : c E args with
    | some r =>
      rw [hce] at hg
      simp only [orT, Option.some.injEq] at hg
      subst hg
      exact hs E args E' res p hce
    | none =>
      rw [hce] at hg
      exact h g E args E' res p hg
  · exact h g E args E' res p hg
def c0 (g : AV) (q : Prop) : List Blk → List AV → Option (List Blk × AV × Prop)
  | [], [] => some ([], g, q)
  | _, _ => none
def c1 (k : IntKind) (g : Int → AV) (q : Int → Prop) : List Blk → List AV → Option (List Blk × AV × Prop)
  | [], [.int k' a] => if k' = k then some ([], g a, q a) else none
  | _, _ => none
def c2 (g : Int → Int → AV) (q : Int → Int → Prop) : List Blk → List AV → Option (List Blk × AV × Prop)
  | [], [.int .i64 a, .int .i64 b] => some ([], g a b, q a b)
  | _, _ => none
def c3 (g : Int → Int → Int → AV) (q : Int → Int → Int → Prop) : List Blk → List AV → Option (List Blk × AV × Prop)
  | [], [.int .i64 a, .int .i64 b, .int .i64 c] => some ([], g a b c, q a b c)
  | _, _ => none
end Go.Abs
end
section
set_option linter.unusedVariables false
set_option linter.unusedSimpArgs false
namespace Go.Abs
def kseq (K : St → Prop) (Q : Ex → St → Prop) : Ex → St → Prop
  | .normal, s => K s
  | .exit i, s => Q (.exit i) s
  | .ret, s => Q .ret s
def kcut {X : Type} (m : Nat) (emb : X → St) (I : X → Prop) (Q : Ex → St → Prop) : Ex → St → Prop
  | .normal, s => ∃ x, WeakE m s (emb x) ∧ I x
  | .exit i, s => Q (.exit i) s
  | .ret, s => Q .ret s
def kblk (id : Nat) (Q : Ex → St → Prop) : Ex → St → Prop
  | .normal, s => Q .normal s
  | .exit i, s => if i = id then Q .normal s else Q (.exit i) s
  | .ret, s => Q .ret s
abbrev HQ := Hold (Ex → St → Prop)
abbrev HK := Hold (St → Prop)
abbrev HD := Hold (Nat → List Nat)
abbrev HU := Hold (Nat → Option CutS)
def VP (P : Program) (C : Tbl) (wr : Bool) (st : St) [all : Hold (List Oper)] [o : Hold Oper] [K : HK] : Prop := Wop P C wr all.v o.v st K.v
def VPQ (P : Program) (C : Tbl) (wr : Bool) (st : St) [all : Hold (List Oper)] [o : Hold Oper] [K : HK] : Prop := WopQ P C wr all.v o.v st K.v
def VO (P : Program) (C : Tbl) (wr : Bool) (st : St) [all : Hold (List Oper)] [l : Hold (List Oper)] [K : HK] : Prop := Wops P C wr all.v l.v st K.v
def sameH (l : List Nat) [s : Hold St] [t : Hold St] : Prop := sameAt s.v t.v l
def loadH (C : Tbl) (l : List Nat) [op : Hold Op] [st : Hold St] : Prop := loadC C op.v st.v l
def isBlk (B : Nat) (v : AV) : Prop := onB B v
theorem sameH_nil {s t} : @sameH [] ⟨s⟩ ⟨t⟩ = True := rfl
theorem sameH_cons {B l s t} : @sameH (B :: l) ⟨s⟩ ⟨t⟩ = (s.lk B = t.lk B ∧ @sameH l ⟨s⟩ ⟨t⟩) := rfl
theorem loadH_nil {C op st} : @loadH C [] ⟨op⟩ ⟨st⟩ = True := rfl
theorem loadH_call {C B l g args ats st} : @loadH C (B :: l) ⟨.call ⟨.value g, args, ats⟩⟩ ⟨st⟩ = (callNF C (args.toList.map (fun x => (st.ev x).un)) (st.ev g).un ∧ @loadH C l ⟨.call ⟨.value g, args, ats⟩⟩ ⟨st⟩) := rfl
theorem loadH_load {C B l t p st} : @loadH C (B :: l) ⟨.load t (.tmp p)⟩ ⟨st⟩ = (isBlk B (st.get p) ∧ @loadH C l ⟨.load t (.tmp p)⟩ ⟨st⟩) := rfl
theorem loadH_ia {C B l t p i st} : @loadH C (B :: l) ⟨.indexAddr t (.tmp p) i⟩ ⟨st⟩ = (isBlk B (st.get p) ∧ @loadH C l ⟨.indexAddr t (.tmp p) i⟩ ⟨st⟩) := rfl
theorem isBlk_ptr {B id i j hw} : isBlk B (.ptr id i j hw) = (id = B) := by simp [isBlk, onB, AV.un]
theorem isBlk_ref {B id i j hw} : isBlk B (.ref id i j hw) = (id = B) := by simp [isBlk, onB, AV.un]
theorem isBlk_cptr {B e id i j hw} : isBlk B (.cond e (.ptr id i j hw)) = (id = B) := by simp [isBlk, onB, AV.un]
theorem isBlk_cref {B e id i j hw} : isBlk B (.cond e (.ref id i j hw)) = (id = B) := by simp [isBlk, onB, AV.un]
theorem isBlk_list {B sz l} : isBlk B (.list sz l) = True := by simp [isBlk, onB, AV.un]
theorem isBlk_radr {B l} : isBlk B (.radr l) = True := by simp [isBlk, onB, AV.un]
theorem isBlk_clist {B e sz l} : isBlk B (.cond e (.list sz l)) = True := by simp [isBlk, onB, AV.un]
theorem isBlk_cradr {B e l} : isBlk B (.cond e (.radr l)) = True := by simp [isBlk, onB, AV.un]
theorem loadH_sl {C B l t p lo hi mx st} : @loadH C (B :: l) ⟨.slice t (.tmp p) lo hi mx⟩ ⟨st⟩ = (isBlk B (st.get p) ∧ @loadH C l ⟨.slice t (.tmp p) lo hi mx⟩ ⟨st⟩) := rfl
theorem loadH_len {C B l p ats st} : @loadH C (B :: l) ⟨.call ⟨.builtin .len, #[.tmp p], ats⟩⟩ ⟨st⟩ = (isBlk B (st.get p) ∧ @loadH C l ⟨.call ⟨.builtin .len, #[.tmp p], ats⟩⟩ ⟨st⟩) := rfl
theorem codesOf_nil {k} : codesOf [] k = [] := rfl
theorem codesOf_cons {c r k} : codesOf (c :: r) k = bif c / 10000 == k + 1 then c % 10000 :: codesOf r k else codesOf r k := by
  simp only [codesOf]; cases c / 10000 == k + 1 <;> rfl
def VD (P : Program) (C : Tbl) (wr : Bool) (ser : List Nat) (k : Nat) (st : St) [all : Hold (List Oper)] [l : Hold (List Oper)] [K : HK] : Prop := WopsD P C wr all.v ser l.v k st K.v
def V (P : Program) (C : Tbl) (wr : Bool) (m : Nat) (st : St) [D : HD] [U : HU] [c : Hold Code] [Q : HQ] : Prop := W P C wr D.v U.v m c.v st Q.v
def VR (P : Program) (C : Tbl) (m : Nat) (st : St) (g : Operand) (ps : Array Tmp) [D : HD] [A : Hold Code] [B : Hold Code] [Q : HQ] : Prop := WR P C D.v m g ps A.v B.v st Q.v
def VL (P : Program) (C : Tbl) (wr : Bool) (m : Nat) (st : St) [D : HD] [U : HU] [c : Hold Code] [Q : HQ] : Prop := W P C wr D.v U.v m (.loop c.v) st Q.v
abbrev StepR := Option (AV × List (Nat × Blk) × Prop)
def stepP (r : StepR) (st : St) (dst : Option Nat) (uc : Prop) [K : HK] : Prop :=
  match r with
  | some (v, u, p) => uc ∧ p ∧ K.v ((st.upd u).put dst v)
  | none => False
def stepQ (r : StepR) (st : St) (dst : Option Nat) (uc : Prop) [K : HK] : Prop :=
  match r with
  | some (v, [], p) => uc ∧ p ∧ K.v (st.put dst v)
  | _ => False
def grdP (g : Option Bool) (r : StepR) (st : St) (dst : Option Nat) (uc : Prop) [K : HK] : Prop :=
  match g with
  | some e => match r with
    | some (v, [], p) => gimp e (uc ∧ p) ∧ K.v (st.put dst (.cond e v))
    | some (v, u, p) => (e = true → uc ∧ p ∧ K.v ((st.upd u).put dst (.cond true v))) ∧ (e = false → K.v (st.put dst (.cond false .any)))
    | none => e = false ∧ K.v (st.put dst (.cond false .any))
  | none => False
def grdQ (g : Option Bool) (r : StepR) (st : St) (dst : Option Nat) (uc : Prop) [K : HK] : Prop :=
  match g with
  | some e => match r with
    | some (v, [], p) => gimp e (uc ∧ p) ∧ K.v (st.put dst (.cond e v))
    | some _ => False
    | none => e = false ∧ K.v (st.put dst (.cond false .any))
  | none => False
def cndP (v : AV) (uc : Prop) [A : Hold Prop] [B : Hold Prop] : Prop :=
  match v with
  | .bool b => uc ∧ (b = true → A.v) ∧ (b = false → B.v)
  | .own _ l => uc ∧ (l = [] → A.v) ∧ B.v
  | _ => False
def serP (b : Bool) [A : Hold Prop] [B : Hold Prop] : Prop :=
  match b with
  | true => A.v
  | false => B.v
theorem stepP_some {v u p st dst uc K} : @stepP (some (v, u, p)) st dst uc ⟨K⟩ = (uc ∧ p ∧ K ((st.upd u).put dst v)) := rfl
theorem stepQ_some {v p st dst uc K} : @stepQ (some (v, [], p)) st dst uc ⟨K⟩ = (uc ∧ p ∧ K (st.put dst v)) := rfl
theorem grdP_nil {e v p st dst uc K} : @grdP (some e) (some (v, [], p)) st dst uc ⟨K⟩ = (gimp e (uc ∧ p) ∧ K (st.put dst (.cond e v))) := rfl
theorem grdP_cons {e v x u p st dst uc K} : @grdP (some e) (some (v, x :: u, p)) st dst uc ⟨K⟩ = ((e = true → uc ∧ p ∧ K ((st.upd (x :: u)).put dst (.cond true v))) ∧ (e = false → K (st.put dst (.cond false .any)))) := rfl
theorem grdP_none {e st dst uc K} : @grdP (some e) none st dst uc ⟨K⟩ = (e = false ∧ K (st.put dst (.cond false .any))) := rfl
theorem grdQ_nil {e v p st dst uc K} : @grdQ (some e) (some (v, [], p)) st dst uc ⟨K⟩ = (gimp e (uc ∧ p) ∧ K (st.put dst (.cond e v))) := rfl
theorem grdQ_none {e st dst uc K} : @grdQ (some e) none st dst uc ⟨K⟩ = (e = false ∧ K (st.put dst (.cond false .any))) := rfl
theorem cndP_bool {b uc A B} : @cndP (.bool b) uc ⟨A⟩ ⟨B⟩ = (uc ∧ (b = true → A) ∧ (b = false → B)) := rfl
theorem cndP_own {sz l uc A B} : @cndP (.own sz l) uc ⟨A⟩ ⟨B⟩ = (uc ∧ (l = [] → A) ∧ B) := rfl
theorem serP_true {A B} : @serP true ⟨A⟩ ⟨B⟩ = A := rfl
theorem serP_false {A B} : @serP false ⟨A⟩ ⟨B⟩ = B := rfl
def wrapP (r : Option (AV × Prop)) : StepR := match r with | some (v, p) => some (v, [], p) | none => none
def wrapE (r : Option (AV × Nat × Blk × Prop)) : StepR := match r with | some (v, i, b, p) => some (v, [(i, b)], p) | none => none
theorem wrapP_some {v p} : wrapP (some (v, p)) = some (v, [], p) := rfl
theorem wrapE_some {v i b p} : wrapE (some (v, i, b, p)) = some (v, [(i, b)], p) := rfl
def orR (a b : StepR) : StepR := match a with | some x => some x | none => b
theorem orR_some {x b} : orR (some x) b = some x := rfl
theorem orR_none {b} : orR none b = b := rfl
theorem wrapP_none : wrapP none = none := rfl
theorem wrapE_none : wrapE none = none := rfl
section
variable {P : Program} {C : Tbl} {wr : Bool} {L : Nat → Option Blk} {dst : Option Nat} {ρ : Operand → AV}
theorem es_eq {op : Op} : evStep P C wr L dst ρ op = orR (wrapP (evPure P wr ρ op)) (orR (wrapP (evRead P L ρ op)) (orR (wrapE (evEff P L (idOf dst) ρ op)) (evCall C L (idOf dst) ρ op))) := by
  unfold evStep
  cases evPure P wr ρ op with
  | some x => rfl
  | none => cases evRead P L ρ op with
    | some x => rfl
    | none => cases evEff P L (idOf dst) ρ op with
      | some x => rfl
      | none => rfl
theorem es_pure {op : Op} (h1 : evRead P L ρ op = none) (h2 : evEff P L (idOf dst) ρ op = none) (h3 : evCall C L (idOf dst) ρ op = none) : evStep P C wr L dst ρ op = wrapP (evPure P wr ρ op) := by
  rw [es_eq, h1, h2, h3]
  cases evPure P wr ρ op <;> rfl
theorem es_move {x} : evStep P C wr L dst ρ (.move x) = some ((ρ x).un, [], True) := rfl
theorem es_assign {x} : evStep P C wr L dst ρ (.assign x) = some ((ρ x).un, [], True) := rfl
theorem es_pick {c a b} : evStep P C wr L dst ρ (.pick c a b) = wrapP (evPick (ρ c) (ρ a) (ρ b)) := es_pure rfl rfl rfl
theorem es_binOp {op t x y e} : evStep P C wr L dst ρ (.binOp op t x y e) = orR (wrapP (evBinX P wr op t (ρ x).un (ρ y).un)) (wrapP (rdPeq P L op t (ρ x).un (ρ y).un)) := by
  rw [es_eq]
  show orR _ (orR (wrapP (rdPeq P L op t (ρ x).un (ρ y).un)) (orR none none)) = _
  cases rdPeq P L op t (ρ x).un (ρ y).un <;> rfl
theorem es_unOp {op t x} : evStep P C wr L dst ρ (.unOp op t x) = wrapP (evUn wr op (ρ x).un) := es_pure rfl rfl rfl
theorem es_index {t x i} : evStep P C wr L dst ρ (.index t x i) = wrapP (evIndex P t (ρ x).un (ρ i).un) := es_pure rfl rfl rfl
theorem es_field {t x f} : evStep P C wr L dst ρ (.field t x f) = wrapP (evField P t (ρ x).un f) := es_pure rfl rfl rfl
theorem es_fieldAddr {t x f} : evStep P C wr L dst ρ (.fieldAddr t x f) = wrapP (evFieldAddr P t (ρ x).un f) := es_pure rfl rfl rfl
theorem es_extract {x i} : evStep P C wr L dst ρ (.extract x i) = wrapP (evExtract (ρ x).un i) := es_pure rfl rfl rfl
theorem es_build {t ps} : evStep P C wr L dst ρ (.build t ps) = wrapP (evBuild P t (ps.toList.map fun p => (p.1, (ρ p.2).un))) := es_pure rfl rfl rfl
theorem es_makeInterface {t x} : evStep P C wr L dst ρ (.makeInterface t x) = wrapP (evMkI P t (ρ x).un) := es_pure rfl rfl rfl
theorem es_typeAssert {x xT t} : evStep P C wr L dst ρ (.typeAssert x xT t true) = wrapP (evTA P t (ρ x).un) := es_pure rfl rfl rfl
theorem es_nilCheck {x} : evStep P C wr L dst ρ (.nilCheck x) = wrapP (evNilCheck (ρ x).un) := es_pure rfl rfl rfl
theorem es_makeFunc {f fst cs} : evStep P C wr L dst ρ (.makeFunc (.func f) fst cs) = wrapP (some (.clo f fst.size ((fst.toList ++ cs.toList).map fun x => (ρ x).un), True)) := es_pure rfl rfl rfl
theorem es_max {a t} : evStep P C wr L dst ρ (.call ⟨.builtin .max, a, t⟩) = wrapP (evBuiltin P .max t.toList (a.toList.map fun x => (ρ x).un)) := es_pure rfl rfl rfl
theorem es_min {a t} : evStep P C wr L dst ρ (.call ⟨.builtin .min, a, t⟩) = wrapP (evBuiltin P .min t.toList (a.toList.map fun x => (ρ x).un)) := es_pure rfl rfl rfl
theorem es_lookup {t x k} : evStep P C wr L dst ρ (.lookup t x k false) = wrapP (rdLookup P L t (ρ x).un (ρ k).un) := by
  rw [es_eq]
  show orR none (orR (wrapP (rdLookup P L t (ρ x).un (ρ k).un)) (orR none none)) = _
  cases rdLookup P L t (ρ x).un (ρ k).un <;> rfl
theorem es_load {t x} : evStep P C wr L dst ρ (.load t x) = wrapP (rdLoad P L t (ρ x).un) := by
  rw [es_eq]
  show orR none (orR (wrapP (rdLoad P L t (ρ x).un)) (orR none none)) = _
  cases rdLoad P L t (ρ x).un <;> rfl
theorem es_indexAddr {t x i} : evStep P C wr L dst ρ (.indexAddr t x i) = orR (wrapP (evIndexAddr P t (ρ x).un (ρ i).un)) (wrapP (rdIndexAddr P L t (ρ x).un (ρ i).un)) := by
  rw [es_eq]
  show orR _ (orR (wrapP (rdIndexAddr P L t (ρ x).un (ρ i).un)) (orR none none)) = _
  cases rdIndexAddr P L t (ρ x).un (ρ i).un <;> rfl
theorem es_slice {t x lo hi mx} : evStep P C wr L dst ρ (.slice t x lo hi mx) = orR (wrapP (evSlice P t (ρ x).un (unO ρ lo) (unO ρ hi) (unO ρ mx))) (wrapP (rdSlice P L t (ρ x).un (unO ρ lo) (unO ρ hi) (unO ρ mx))) := by
  rw [es_eq]
  show orR _ (orR (wrapP (rdSlice P L t (ρ x).un (unO ρ lo) (unO ρ hi) (unO ρ mx))) (orR none none)) = _
  cases rdSlice P L t (ρ x).un (unO ρ lo) (unO ρ hi) (unO ρ mx) <;> rfl
theorem es_convert {s d x} : evStep P C wr L dst ρ (.convert s d x) = orR (wrapP (evConv P wr s d (ρ x).un)) (orR (wrapP (rdCv P L s d (ρ x).un)) (wrapE (efBytes P L (idOf dst) s d (ρ x).un))) := by
  rw [es_eq]
  show orR _ (orR _ (orR (wrapE (efBytes P L (idOf dst) s d (ρ x).un)) none)) = _
  cases efBytes P L (idOf dst) s d (ρ x).un <;> rfl
theorem es_len {a t} : evStep P C wr L dst ρ (.call ⟨.builtin .len, a, t⟩) = orR (wrapP (evPure P wr ρ (.call ⟨.builtin .len, a, t⟩))) (wrapP (evRead P L ρ (.call ⟨.builtin .len, a, t⟩))) := by
  rw [es_eq]
  show orR _ (orR _ (orR none none)) = _
  cases evRead P L ρ (.call ⟨.builtin .len, a, t⟩) <;> rfl
theorem es_usd {a t} : evStep P C wr L dst ρ (.call ⟨.builtin .unsafeSliceData, a, t⟩) = orR (wrapP (evPure P wr ρ (.call ⟨.builtin .unsafeSliceData, a, t⟩))) (wrapP (evRead P L ρ (.call ⟨.builtin .unsafeSliceData, a, t⟩))) := by
  rw [es_eq]
  show orR _ (orR _ (orR none none)) = _
  cases evRead P L ρ (.call ⟨.builtin .unsafeSliceData, a, t⟩) <;> rfl
theorem es_eff {op : Op} (h1 : evPure P wr ρ op = none) (h2 : evRead P L ρ op = none) (h3 : evCall C L (idOf dst) ρ op = none) : evStep P C wr L dst ρ op = wrapE (evEff P L (idOf dst) ρ op) := by
  rw [es_eq, h1, h2, h3]
  show orR (wrapE (evEff P L (idOf dst) ρ op)) none = _
  cases evEff P L (idOf dst) ρ op <;> rfl
theorem es_makeMap {t} : evStep P C wr L dst ρ (.makeMap t none) = wrapE (efMakeMap P L (idOf dst) t) := es_eff rfl rfl rfl
theorem es_mapUpdate {t x k v} : evStep P C wr L dst ρ (.mapUpdate t x k v) = wrapE (efMapPut P L t (ρ x).un (ρ k).un (ρ v).un) := es_eff rfl rfl rfl
theorem es_alloc {t} : evStep P C wr L dst ρ (.alloc t) = wrapE (evEff P L (idOf dst) ρ (.alloc t)) := es_eff rfl rfl rfl
theorem es_box {t x} : evStep P C wr L dst ρ (.box t x) = wrapE (efBoxed P L (idOf dst) t (ρ x).un) := es_eff rfl rfl rfl
theorem es_buildSlice {t n ps} : evStep P C wr L dst ρ (.buildSlice t n ps) = wrapE (efBuildSlice P L (idOf dst) t n (ps.toList.map fun p => (p.1, (ρ p.2).un))) := es_eff rfl rfl rfl
theorem es_makeSlice {t l c} : evStep P C wr L dst ρ (.makeSlice t l c) = wrapE (efMake P L (idOf dst) t (ρ l).un (ρ c).un) := es_eff rfl rfl rfl
theorem es_store {t x y} : evStep P C wr L dst ρ (.store t x y) = wrapE (efStore P L t (ρ x).un (ρ y).un) := es_eff rfl rfl rfl
theorem es_range {t x} : evStep P C wr L dst ρ (.range t x) = wrapE (efRange P L (idOf dst) t (ρ x).un) := es_eff rfl rfl rfl
theorem es_next {x} : evStep P C wr L dst ρ (.next x true) = wrapE (efNext L (ρ x).un) := es_eff rfl rfl rfl
theorem es_copy {a t} : evStep P C wr L dst ρ (.call ⟨.builtin .copy, a, t⟩) = wrapE (evEff P L (idOf dst) ρ (.call ⟨.builtin .copy, a, t⟩)) := es_eff rfl rfl rfl
theorem es_clear {a t} : evStep P C wr L dst ρ (.call ⟨.builtin .clear, a, t⟩) = wrapE (evEff P L (idOf dst) ρ (.call ⟨.builtin .clear, a, t⟩)) := es_eff rfl rfl rfl
theorem es_append {a t} : evStep P C wr L dst ρ (.call ⟨.builtin .append, a, t⟩) = wrapE (evEff P L (idOf dst) ρ (.call ⟨.builtin .append, a, t⟩)) := es_eff rfl rfl rfl
theorem es_ustr {a t} : evStep P C wr L dst ρ (.call ⟨.builtin .unsafeString, a, t⟩) = wrapE (evEff P L (idOf dst) ρ (.call ⟨.builtin .unsafeString, a, t⟩)) := es_eff rfl rfl rfl
theorem es_call {x a t} : evStep P C wr L dst ρ (.call ⟨.value x, a, t⟩) = evCall C L (idOf dst) ρ (.call ⟨.value x, a, t⟩) := by
  rw [es_eq]; rfl
end
section
variable {P : Program} {C : Tbl} {wr : Bool} {D : Nat → List Nat} {U : Nat → Option CutS} {m : Nat} {st : St} {Q : Ex → St → Prop}
theorem W_V {c : Code} : W P C wr D U m c st Q = @V P C wr m st ⟨D⟩ ⟨U⟩ ⟨c⟩ ⟨Q⟩ := rfl
theorem V_skip : @V P C wr m st ⟨D⟩ ⟨U⟩ ⟨.skip⟩ ⟨Q⟩ = Q .normal st := rfl
theorem V_label {l} : @V P C wr m st ⟨D⟩ ⟨U⟩ ⟨.label l⟩ ⟨Q⟩ = Q .normal st := rfl
theorem V_regF {id : Nat} {l : List Oper} : @V P C wr m st ⟨D⟩ ⟨U⟩ ⟨.region id ⟨l⟩ false⟩ ⟨Q⟩ = @VO P C wr st ⟨l⟩ ⟨l⟩ ⟨fun s => Q .normal s⟩ := rfl
theorem V_regT {id : Nat} {l : List Oper} : @V P C wr m st ⟨D⟩ ⟨U⟩ ⟨.region id ⟨l⟩ true⟩ ⟨Q⟩ = @VD P C wr (D id) 0 st ⟨l⟩ ⟨l⟩ ⟨fun s => Q .normal s⟩ := rfl
def seqU (P : Program) (C : Tbl) (wr : Bool) (m : Nat) (st : St) (k : Option CutS) [D : HD] [U : HU] [a : Hold Code] [b : Hold Code] [Q : HQ] : Prop :=
  match k with
  | none => @V P C wr m st D U a ⟨kseq (fun s => @V P C wr m s D U b Q) Q.v⟩
  | some k => @V P C wr m st D U a ⟨kcut m k.emb k.I Q.v⟩ ∧ ∀ x, k.I x → @V P C wr m (k.emb x) D U b Q
theorem seqU_none {a b} : @seqU P C wr m st none ⟨D⟩ ⟨U⟩ ⟨a⟩ ⟨b⟩ ⟨Q⟩ = @V P C wr m st ⟨D⟩ ⟨U⟩ ⟨a⟩ ⟨kseq (fun s => @V P C wr m s ⟨D⟩ ⟨U⟩ ⟨b⟩ ⟨Q⟩) Q⟩ := rfl
theorem seqU_some {X emb I a b} : @seqU P C wr m st (some ⟨X, emb, I⟩) ⟨D⟩ ⟨U⟩ ⟨a⟩ ⟨b⟩ ⟨Q⟩ = (@V P C wr m st ⟨D⟩ ⟨U⟩ ⟨a⟩ ⟨kcut m emb I Q⟩ ∧ ∀ x, I x → @V P C wr m (emb x) ⟨D⟩ ⟨U⟩ ⟨b⟩ ⟨Q⟩) := rfl
theorem V_scope {b} : @V P C wr m st ⟨D⟩ ⟨U⟩ ⟨.scope b⟩ ⟨Q⟩ = @V P C wr m st ⟨D⟩ ⟨U⟩ ⟨b⟩ ⟨Q⟩ := rfl
theorem V_goto {l} : @V P C wr m st ⟨D⟩ ⟨U⟩ ⟨.goto l⟩ ⟨Q⟩ = False := rfl
theorem V_seq {a b} : @V P C wr m st ⟨D⟩ ⟨U⟩ ⟨.seq a b⟩ ⟨Q⟩ = @seqU P C wr m st (U (fstR b)) ⟨D⟩ ⟨U⟩ ⟨a⟩ ⟨b⟩ ⟨Q⟩ := by
  show W P C wr D U m (.seq a b) st Q = _
  simp only [W]
  unfold seqU
  cases U (fstR b) with
  | none =>
    show W P C wr D U m a st _ = W P C wr D U m a st _
    congr 1
    funext e s
    cases e <;> rfl
  | some k =>
    show (W P C wr D U m a st _ ∧ _) = (W P C wr D U m a st _ ∧ _)
    congr 2
    funext e s
    cases e <;> rfl
theorem V_cond {c a b} : @V P C wr m st ⟨D⟩ ⟨U⟩ ⟨.cond c a b⟩ ⟨Q⟩ = @cndP (st.ev c).un (st.ev c).uc ⟨@V P C wr m st ⟨D⟩ ⟨U⟩ ⟨a⟩ ⟨Q⟩⟩ ⟨@V P C wr m st ⟨D⟩ ⟨U⟩ ⟨b⟩ ⟨Q⟩⟩ := by
  show W P C wr D U m (.cond c a b) st Q = _
  simp only [W]
  cases (st.ev c).un <;> rfl
theorem V_block {id b} : @V P C wr m st ⟨D⟩ ⟨U⟩ ⟨.block id b⟩ ⟨Q⟩ = @V P C wr m st ⟨D⟩ ⟨U⟩ ⟨b⟩ ⟨kblk id Q⟩ := by
  show W P C wr D U m b st _ = W P C wr D U m b st _
  congr 1
  funext e s
  cases e <;> rfl
theorem V_loop {b} : @V P C wr m st ⟨D⟩ ⟨U⟩ ⟨.loop b⟩ ⟨Q⟩ = @VL P C wr m st ⟨D⟩ ⟨U⟩ ⟨b⟩ ⟨Q⟩ := rfl
theorem V_range {g ps A B} : @V P C wr m st ⟨D⟩ ⟨U⟩ ⟨.rangeFunc g ps A B⟩ ⟨Q⟩ = @VR P C m st g ps ⟨D⟩ ⟨A⟩ ⟨B⟩ ⟨Q⟩ := rfl
theorem V_exit {i} : @V P C wr m st ⟨D⟩ ⟨U⟩ ⟨.exit i⟩ ⟨Q⟩ = Q (.exit i) st := rfl
theorem V_ret : @V P C wr m st ⟨D⟩ ⟨U⟩ ⟨.ret⟩ ⟨Q⟩ = Q .ret st := rfl
theorem kcut_normal {X : Type} {emb : X → St} {I : X → Prop} {s} : kcut m emb I Q .normal s = ∃ x, WeakE m s (emb x) ∧ I x := rfl
theorem kcut_exit {X : Type} {emb : X → St} {I : X → Prop} {i s} : kcut m emb I Q (.exit i) s = Q (.exit i) s := rfl
theorem kcut_ret {X : Type} {emb : X → St} {I : X → Prop} {s} : kcut m emb I Q .ret s = Q .ret s := rfl
theorem kseq_normal {K s} : kseq K Q .normal s = K s := rfl
theorem kseq_exit {K i s} : kseq K Q (.exit i) s = Q (.exit i) s := rfl
theorem kseq_ret {K s} : kseq K Q .ret s = Q .ret s := rfl
theorem kblk_normal {i s} : kblk i Q .normal s = Q .normal s := rfl
theorem kblk_exit {i j s} : kblk i Q (.exit j) s = if j = i then Q .normal s else Q (.exit j) s := rfl
theorem kblk_ret {i s} : kblk i Q .ret s = Q .ret s := rfl
variable {all l : List Oper} {K : St → Prop}
theorem VO_nil : @VO P C wr st ⟨all⟩ ⟨[]⟩ ⟨K⟩ = K st := rfl
theorem VO_cons {o} : @VO P C wr st ⟨all⟩ ⟨o :: l⟩ ⟨K⟩ = @VP P C wr st ⟨all⟩ ⟨o⟩ ⟨fun s => @VO P C wr s ⟨all⟩ ⟨l⟩ ⟨K⟩⟩ := rfl
theorem VD_nil {ser k} : @VD P C wr ser k st ⟨all⟩ ⟨[]⟩ ⟨K⟩ = K st := rfl
theorem VD_cons {ser o k} : @VD P C wr ser k st ⟨all⟩ ⟨o :: l⟩ ⟨K⟩ = @serP (ser.contains k) ⟨@VP P C wr st ⟨all⟩ ⟨o⟩ ⟨fun s => @sameH (codesOf ser k) ⟨st⟩ ⟨s⟩ ∧ @VD P C wr ser (k + 1) s ⟨all⟩ ⟨l⟩ ⟨K⟩⟩⟩
    ⟨@loadH C (codesOf ser k) ⟨o.op⟩ ⟨st⟩ ∧ @VPQ P C wr st ⟨all⟩ ⟨o⟩ ⟨fun s => @VD P C wr ser (k + 1) s ⟨all⟩ ⟨l⟩ ⟨K⟩⟩⟩ := by
  show WopsD P C wr all ser (o :: l) k st K = _
  simp only [WopsD]
  cases ser.contains k <;> rfl
variable {dst : Option Nat} {op : Op} {ty : TypeId} {pos : String} {after : Array Edge}
theorem VP_none : @VP P C wr st ⟨all⟩ ⟨⟨dst, op, ty, pos, after, none⟩⟩ ⟨K⟩ = @stepP (evStep P C wr st.lk dst st.ev op) st dst (ucL st.ev (opnds op)) ⟨K⟩ := rfl
theorem VPQ_none : @VPQ P C wr st ⟨all⟩ ⟨⟨dst, op, ty, pos, after, none⟩⟩ ⟨K⟩ = @stepQ (evStep P C wr st.lk dst st.ev op) st dst (ucL st.ev (opnds op)) ⟨K⟩ := by
  show WopQ P C wr all ⟨dst, op, ty, pos, after, none⟩ st K = _
  unfold WopQ stepQ
  simp only
  cases evStep P C wr st.lk dst st.ev op with
  | none => rfl
  | some x => obtain ⟨v, u, p⟩ := x; cases u <;> rfl
theorem VP_some {g} : @VP P C wr st ⟨all⟩ ⟨⟨dst, op, ty, pos, after, some g⟩⟩ ⟨K⟩ = @grdP (guardE st all (some g)) (evStep P C wr st.lk dst st.ev op) st dst (ucL st.ev (opnds op)) ⟨K⟩ := by
  show Wop P C wr all ⟨dst, op, ty, pos, after, some g⟩ st K = _
  unfold Wop grdP
  simp only
  cases guardE st all (some g) with
  | none => rfl
  | some e =>
    simp only
    cases evStep P C wr st.lk dst st.ev op with
    | none => rfl
    | some x => obtain ⟨v, u, p⟩ := x; cases u <;> rfl
theorem VPQ_some {g} : @VPQ P C wr st ⟨all⟩ ⟨⟨dst, op, ty, pos, after, some g⟩⟩ ⟨K⟩ = @grdQ (guardE st all (some g)) (evStep P C wr st.lk dst st.ev op) st dst (ucL st.ev (opnds op)) ⟨K⟩ := by
  show WopQ P C wr all ⟨dst, op, ty, pos, after, some g⟩ st K = _
  unfold WopQ grdQ
  simp only
  cases guardE st all (some g) with
  | none => rfl
  | some e =>
    simp only
    cases evStep P C wr st.lk dst st.ev op with
    | none => rfl
    | some x => obtain ⟨v, u, p⟩ := x; cases u <;> rfl
end
theorem pureEl_map {α : Type} (f : α → AV) (l : List α) (h : ∀ x, pureBL (f x).cells = true) : pureEl (l.map f) = true := by
  simp only [pureEl, List.all_map, List.all_eq_true]
  intro x _; exact h x
def kinv {X : Type} (m : Nat) (emb : X → St) (I : X → Prop) (μ : X → Nat) (x : X) (Q : Ex → St → Prop) : Ex → St → Prop
  | .normal, s => ∃ x', WeakE m s (emb x') ∧ I x' ∧ μ x' < μ x
  | .exit i, s => Q (.exit i) s
  | .ret, s => Q .ret s
def kinvS {X : Type} (m : Nat) (sw : List (Nat × Nat)) (emb : X → St) (I : X → Prop) (μ : X → Nat) (x : X) (Q : Ex → St → Prop) : Ex → St → Prop
  | .normal, s => ∃ x', WeakS m sw s (emb x') ∧ I x' ∧ μ x' < μ x
  | .exit i, s => Q (.exit i) s
  | .ret, s => Q .ret s
def VN (P : Program) (C : Tbl) (wr : Bool) (m : Nat) (st : St) (n : Nat) [D : HD] [U : HU] [b : Hold Code] [Q : HQ] : Prop :=
  unrollN (W P C wr D.v U.v m b.v) Q.v (InvL (W P C wr D.v U.v m b.v) m Q.v) n st
section
variable {P : Program} {C : Tbl} {wr : Bool} {D : Nat → List Nat} {U : Nat → Option CutS} {m : Nat} {st : St} {Q : Ex → St → Prop} {b : Code}
theorem VL_inv {X : Type} (emb : X → St) (I : X → Prop) (μ : X → Nat) (x0 : X) (hw : WeakE m st (emb x0)) (hI : I x0) (h : ∀ x, I x → @V P C wr m (emb x) ⟨D⟩ ⟨U⟩ ⟨b⟩ ⟨kinv m emb I μ x Q⟩) : @VL P C wr m st ⟨D⟩ ⟨U⟩ ⟨b⟩ ⟨Q⟩ := by
  refine ⟨0, X, emb, I, μ, x0, hw.weak, hI, fun x hx => W_mono _ _ _ _ (fun e s hs => ?_) (h x hx)⟩
  cases e with
  | normal => obtain ⟨x', h1, h2, h3⟩ := hs; exact ⟨x', h1.weak, h2, h3⟩
  | exit i => exact hs
  | ret => exact hs
theorem VL_N (n : Nat) (h : @VN P C wr m st n ⟨D⟩ ⟨U⟩ ⟨b⟩ ⟨Q⟩) : @VL P C wr m st ⟨D⟩ ⟨U⟩ ⟨b⟩ ⟨Q⟩ := ⟨n, h⟩
theorem VN_succ {n : Nat} : @VN P C wr m st (n + 1) ⟨D⟩ ⟨U⟩ ⟨b⟩ ⟨Q⟩ = @V P C wr m st ⟨D⟩ ⟨U⟩ ⟨b⟩ ⟨kseq (fun s => @VN P C wr m s n ⟨D⟩ ⟨U⟩ ⟨b⟩ ⟨Q⟩) Q⟩ := by
  show W P C wr D U m b st _ = W P C wr D U m b st _
  congr 1
  funext e s
  cases e <;> rfl
theorem kinv_normal {X : Type} {emb : X → St} {I : X → Prop} {μ : X → Nat} {x : X} {s} : kinv m emb I μ x Q .normal s = ∃ x', WeakE m s (emb x') ∧ I x' ∧ μ x' < μ x := rfl
theorem kinvS_normal {X : Type} {sw : List (Nat × Nat)} {emb : X → St} {I : X → Prop} {μ : X → Nat} {x : X} {s} : kinvS m sw emb I μ x Q .normal s = ∃ x', WeakS m sw s (emb x') ∧ I x' ∧ μ x' < μ x := rfl
theorem kinvS_exit {X : Type} {sw : List (Nat × Nat)} {emb : X → St} {I : X → Prop} {μ : X → Nat} {x : X} {i s} : kinvS m sw emb I μ x Q (.exit i) s = Q (.exit i) s := rfl
theorem kinvS_ret {X : Type} {sw : List (Nat × Nat)} {emb : X → St} {I : X → Prop} {μ : X → Nat} {x : X} {s} : kinvS m sw emb I μ x Q .ret s = Q .ret s := rfl
theorem kinv_exit {X : Type} {emb : X → St} {I : X → Prop} {μ : X → Nat} {x : X} {i s} : kinv m emb I μ x Q (.exit i) s = Q (.exit i) s := rfl
theorem kinv_ret {X : Type} {emb : X → St} {I : X → Prop} {μ : X → Nat} {x : X} {s} : kinv m emb I μ x Q .ret s = Q .ret s := rfl
end
def vr3 (lc : LoopC) (st : St) (sl : List (Nat × AV)) (pd : Option Code) [Q : HQ] : Prop := match pd with
  | none => Q.v .normal (st.upd [(loopId, .loop lc .exhausted none sl)])
  | some .ret => Q.v .ret (st.upd [(loopId, .loop lc .exhausted (some .ret) sl)])
  | some (.exit i) => Q.v (.exit i) (st.upd [(loopId, .loop lc .exhausted (some (.exit i)) sl)])
  | _ => False
def vr2 (lc : LoopC) (st : St) (o : Option Blk) [Q : HQ] : Prop := match o with
  | some (.loop _ s pd sl) => s ≠ .busy ∧ vr3 lc st sl pd
  | _ => False
def vr1b (lc : LoopC) (st : St) (r : CallR) [Q : HQ] : Prop := match r with
  | some (_, u, p) => p ∧ vr2 lc ⟨st.tmps, u ++ enterL lc st⟩ (St.lk ⟨st.tmps, u ++ enterL lc st⟩ loopId)
  | none => False
def vr1 (P : Program) (C : Tbl) (lc : LoopC) (st : St) (a : AV) (uc : Prop) [Q : HQ] : Prop := match a with
  | .clo f k cs => f ≠ yldF ∧ callable P f = true ∧ uc ∧ st.lk defId = none ∧ st.lk loopId = none ∧ vr1b lc st (evCallP C (lkB (enterL lc st)) 900000 f (cs.take k ++ (.yld loopId :: cs.drop k)))
  | _ => False
section
variable {P : Program} {C : Tbl} {D : Nat → List Nat} {m : Nat} {st : St} {Q : Ex → St → Prop} {lc : LoopC}
theorem vr3_none {sl} : @vr3 lc st sl none ⟨Q⟩ = Q .normal (st.upd [(loopId, .loop lc .exhausted none sl)]) := rfl
theorem vr3_ret {sl} : @vr3 lc st sl (some .ret) ⟨Q⟩ = Q .ret (st.upd [(loopId, .loop lc .exhausted (some .ret) sl)]) := rfl
theorem vr3_exit {sl i} : @vr3 lc st sl (some (.exit i)) ⟨Q⟩ = Q (.exit i) (st.upd [(loopId, .loop lc .exhausted (some (.exit i)) sl)]) := rfl
theorem vr2_some {l s pd sl} : @vr2 lc st (some (.loop l s pd sl)) ⟨Q⟩ = (s ≠ .busy ∧ @vr3 lc st sl pd ⟨Q⟩) := rfl
theorem vr1b_some {v u p} : @vr1b lc st (some (v, u, p)) ⟨Q⟩ = (p ∧ @vr2 lc ⟨st.tmps, u ++ enterL lc st⟩ (St.lk ⟨st.tmps, u ++ enterL lc st⟩ loopId) ⟨Q⟩) := rfl
theorem vr1_clo {f k cs uc} : @vr1 P C lc st (.clo f k cs) uc ⟨Q⟩ = (f ≠ yldF ∧ callable P f = true ∧ uc ∧ st.lk defId = none ∧ st.lk loopId = none ∧ @vr1b lc st (evCallP C (lkB (enterL lc st)) 900000 f (cs.take k ++ (.yld loopId :: cs.drop k))) ⟨Q⟩) := rfl
end
end Go.Abs
set_option linter.unusedVariables false
set_option linter.unusedSimpArgs false
namespace Go.Abs
theorem Fr.below {w w' : World} (h : Fr (fun _ => False) w w') : RowKit.Below w.heap.size w w' := ⟨h.os, h.tape, h.output, h.size, fun k hk => h.block k hk (fun h => h)⟩
theorem heapOK_nil {w : World} {ok : Nat → Nat → Prop} (hok : ∀ b o, ok b o → b < w.heap.size) : HeapOK w ok (lkE []) (fun _ => none) :=
  ⟨fun id sz ro d c h => by simp [lkE] at h, fun id b h => by simp [lkE] at h, fun _ _ => rfl, fun i j b h => by simp at h, fun b o hb => ⟨hok b o hb, fun id h => by simp at h⟩⟩
theorem law_below {P : Program} {f : FuncId} {args : List AV} (hc : (callable P f && decide (f ≠ yldF)) = true) (h : SpecE P f [] args [] (.bool true)) {w : World} {vs : List Value} (ok : Nat → Nat → Prop) (hok : ∀ b o, ok b o → b < w.heap.size) (hl : vs.length = args.length)
    (hr : ∀ (i : Nat) (a : AV) (v : Value), args[i]? = some a → vs[i]? = some v → Rp w ok a v) :
    Calls P f vs.toArray w fun e w' => e = .returned (.bool true) ∧ RowKit.Below w.heap.size w w' := by
  simp only [Bool.and_eq_true, decide_eq_true_eq] at hc
  refine ((h w ok (fun _ => none) vs (heapOK_nil hok) hl (fun i a v ha hv => .pure _ _ (hr i a v ha hv))).toCalls hc.1 hc.2).mono ?_
  rintro e w' ⟨v, ok', φ', rfl, post⟩
  have hv : v = .bool true := by
    have := post.val
    cases this with
    | pure _ _ h => cases h; rfl
  refine ⟨by rw [hv], Fr.below ⟨post.frame.os, post.frame.tape, post.frame.output, post.frame.size, fun k hk _ => post.frame.block k hk (fun ⟨i, hi⟩ => by simp at hi)⟩⟩
inductive RpL (w : World) (ok : Nat → Nat → Prop) : List AV → List Value → Prop
  | nil : RpL w ok [] []
  | cons (a : AV) (v : Value) (as : List AV) (vs : List Value) (h : Rp w ok a v) (r : RpL w ok as vs) : RpL w ok (a :: as) (v :: vs)
theorem RpL.len {w ok as vs} (h : RpL w ok as vs) : vs.length = as.length := by
  induction h with
  | nil => rfl
  | cons a v as vs h r ih => simp [ih]
theorem RpL.get {w ok as vs} (h : RpL w ok as vs) : ∀ (i : Nat) (a : AV) (v : Value), as[i]? = some a → vs[i]? = some v → Rp w ok a v := by
  induction h with
  | nil => intro i a v ha; simp at ha
  | cons a v as vs h r ih =>
    intro i x u hx hu
    cases i with
    | zero => simp at hx hu; subst hx; subst hu; exact h
    | succ i => exact ih i x u (by simpa using hx) (by simpa using hu)
theorem law_at {P : Program} {f : FuncId} {args : List AV} (hc : (callable P f && decide (f ≠ yldF)) = true) (h : SpecE P f [] args [] (.bool true)) {w : World} {vs : List Value} (ok : Nat → Nat → Prop) (hok : ∀ b o, ok b o → b < w.heap.size) (hr : RpL w ok args vs) :
    Calls P f vs.toArray w fun e w' => e = .returned (.bool true) ∧ RowKit.Below w.heap.size w w' := law_below hc h ok hok hr.len hr.get
theorem R.toRp0 {w ok L φ a v} (hL : ∀ id, L id = none) (h : R w ok L φ a v) : Rp w ok a v := by
  induction h with
  | pure a v h => exact h
  | ref id off len hw va vn vc sz ro d c h => rw [hL] at h; cases h
  | ptr id i j hw pa sz ro d c h => rw [hL] at h; cases h
  | it id s pos b h => rw [hL] at h; cases h
  | mp id es b h => rw [hL] at h; cases h
  | yld id lc st pd sl b h => rw [hL] at h; cases h
  | agg cs vs hl h1 h ih => exact .agg cs vs hl h1 ih
  | tuple cs vs hl h ih => exact .tuple cs vs hl ih
  | clo f k cs vs hl h ih => exact .clo f k cs vs hl ih
  | condT a v h ih => exact .condT a v ih
theorem SpecE.ofCalls {P : Program} {f : FuncId} {args : List AV} {res : AV} (hc : (callable P f && decide (f ≠ yldF)) = true)
    (h : ∀ (w : World) (ok : Nat → Nat → Prop) (vs : List Value), (∀ b o, ok b o → b < w.heap.size) → vs.length = args.length → (∀ (i : Nat) (a : AV) (v : Value), args[i]? = some a → vs[i]? = some v → Rp w ok a v) →
      Calls P f vs.toArray w fun e w' => ∃ v, e = .returned v ∧ RowKit.Below w.heap.size w w' ∧ ∀ ok' : Nat → Nat → Prop, Rp w' ok' res v) : SpecE P f [] args [] res := by
  simp only [Bool.and_eq_true, decide_eq_true_eq] at hc
  intro w ok φ vs hh hl hr
  have h0 : ∀ id, lkE [] id = none := fun id => rfl
  refine CallsX.calls hc.1 hc.2 ((h w ok vs (fun b o hb => (hh.shut b o hb).1) hl (fun i a v ha hv => (hr i a v ha hv).toRp0 h0)).mono ?_)
  rintro e w' ⟨v, rfl, bel, hv⟩
  have hφ : ∀ i b, φ i = some b → False := fun i b hb => by rw [hh.dom i (h0 i)] at hb; cases hb
  refine ⟨v, ok, φ, rfl, ⟨⟨bel.os, bel.tape, bel.output, bel.size, fun k hk _ => bel.block k hk⟩, ?_, .pure _ _ (hv ok), ?_, fun i b hb => (hφ i b hb).elim, fun b o hb => .inl hb⟩⟩
  · exact ⟨fun id sz ro d c h => by simp [lkE] at h, fun id b h => by simp [lkE] at h, hh.dom, hh.inj, fun b o hb => ⟨Nat.lt_of_lt_of_le (hh.shut b o hb).1 bel.size, (hh.shut b o hb).2⟩⟩
  · exact ⟨fun _ _ h => h, fun b o hb => World.cell?_of_block (a := ⟨b, o, none⟩) (bel.block b (hh.shut b o hb).1), fun id sz ro d c h => by simp [lkE] at h, fun id b h => by simp [lkE] at h⟩
theorem Rp.strInv {w ok s v} (h : Rp w ok (.str s) v) : v = .string ⟨s.toArray⟩ := by cases h; rfl
theorem Rp.intInv {w ok k n v} (h : Rp w ok (.int k n) v) : v = .int k n := by cases h; rfl
end Go.Abs
end
section
set_option linter.unusedVariables false
set_option linter.unusedSimpArgs false
namespace Go.Abs
def argOK (a b : AV) : Prop :=
  match a with
  | .nils => match b with
    | .list _ l => l = []
    | b => .nils = b
  | .nil0 => match b with
    | .list _ l => l = []
    | b => .nil0 = b
  | a => a = b
theorem argOK.R {w ok L φ a b v} (h : argOK a b) (hr : R w ok L φ a v) : R w ok L φ b v := by
  unfold argOK at h
  split at h
  · split at h
    · subst h
      obtain rfl : v = .slice none 0 0 := by cases hr with | pure _ _ h => cases h; rfl
      exact .pure _ _ (.list0 _ none 0 (Nat.zero_le _))
    · rw [← h]; exact hr
  · split at h
    · subst h
      obtain ⟨a0, rfl⟩ : ∃ a0, v = .slice a0 0 0 := by cases hr with | pure _ _ h => cases h; exact ⟨_, rfl⟩
      exact .pure _ _ (.list0 _ a0 0 (Nat.zero_le _))
    · rw [← h]; exact hr
  · rw [← h]; exact hr
theorem argOK.refl (a : AV) : argOK a a := by
  unfold argOK
  split <;> rfl
inductive ArgsOK : List AV → List AV → Prop
  | nil : ArgsOK [] []
  | cons {a b as bs} (h : argOK a b) (r : ArgsOK as bs) : ArgsOK (a :: as) (b :: bs)
theorem ArgsOK.len {as bs} (h : ArgsOK as bs) : as.length = bs.length := by induction h <;> simp_all
theorem ArgsOK.get {as bs} (h : ArgsOK as bs) : ∀ (i : Nat) (b : AV), bs[i]? = some b → ∃ a, as[i]? = some a ∧ argOK a b := by
  induction h with
  | nil => intro i b hb; simp at hb
  | cons h r ih =>
    intro i b hb
    cases i with
    | zero => simp at hb; subst hb; exact ⟨_, rfl, h⟩
    | succ i => exact ih i b (by simpa using hb)
theorem SpecE.args {P : Program} {f : FuncId} {E E' : List Blk} {as bs : List AV} {res : AV} (h : SpecE P f E bs E' res) (ha : ArgsOK as bs) : SpecE P f E as E' res := by
  intro w ok φ vs hh hl hr
  refine h w ok φ vs hh (by rw [hl, ha.len]) (fun i b v hb hv => ?_)
  obtain ⟨a, h1, h2⟩ := ha.get i b hb
  exact h2.R (hr i a v h1 hv)
def FinEv (P : Program) (m : Nat) (xs : List Nat) (rl : List ResultVar) (E' : List Blk) (res : List AV) (st : St) : Prop :=
  match resR P st.lk st.get rl with
  | some (l, p) => p ∧ noAny (renL (sigX m xs) res) = true ∧ okX m xs ∧ E'.length = m + xs.length ∧ subP st.lk (lkB (newBlks (sigX m xs) E' 0)) l (renL (sigX m xs) res) ∧
    subBE st.lk (lkB (newBlks (sigX m xs) E' 0)) (newBlks (sigX m xs) E' 0) ∧ extsOK st.lk (lkB (newBlks (sigX m xs) E' 0)) m ∧ st.lk defId = none
  | none => False
def FinE (P : Program) (m : Nat) (xs : List Nat) (rl : List ResultVar) (E' : List Blk) (res : List AV) : Ex → St → Prop
  | .exit _, _ => False
  | .normal, st => FinEv P m xs rl E' res st
  | .ret, st => FinEv P m xs rl E' res st
theorem finEv_ok {P m xs rl E' res st} (h : FinEv P m xs rl E' res st) : Ret P m rl E' res st := by
  unfold FinEv at h
  split at h
  · rename_i l p hr
    exact ⟨l, p, xs, hr, h.1, h.2.2.1, h.2.2.2.1, subP_ok h.2.1 h.2.2.2.2.1, subBE_ok h.2.2.2.2.2.1, h.2.2.2.2.2.2.1, h.2.2.2.2.2.2.2⟩
  · exact h.elim
theorem specFE {P : Program} {C : Tbl} {wr : Bool} {D : Nat → List Nat} {U : Nat → Option CutS} {f : Nat} {fn : Func} {E E' : List Blk} {args res : List AV} {nE nA : Nat} (xs : List Nat)
    (hm : P.follows .mixedOrders = true) (hC : TblOK P C) (hf : P.funcs[f]? = some fn) (hok : fnOK P fn D nE nA = true) (hE : E.length = nE) (hA : args.length = nA)
    (h : W P C wr D U nE (bodyOf fn) (St.init E args) (FinE P nE xs (rlOf fn) E' res)) : SpecE P f E args E' (resAV res) := by
  refine specF hm hC hf hok hE hA (W_mono _ _ _ _ (fun e s hs => ?_) h)
  cases e with
  | normal => exact finEv_ok hs
  | exit i => exact hs
  | ret => exact finEv_ok hs
def FinEvM (P : Program) (m : Nat) (xs : List Nat) (rl : List ResultVar) (E' : List Blk) (res : List AV) (st : St) : Prop := FinEv P m xs rl E' res st.del ∧ ∀ b, st.lk defId = some b → b = .defer
def FinEM (P : Program) (m : Nat) (xs : List Nat) (rl : List ResultVar) (E' : List Blk) (res : List AV) : Ex → St → Prop
  | .exit _, _ => False
  | .normal, st => FinEvM P m xs rl E' res st
  | .ret, st => FinEvM P m xs rl E' res st
def setP : List Tmp → List AV → List (Nat × AV) → List (Nat × AV)
  | p :: ps, a :: as, sl => setP ps as ((p, a) :: sl)
  | _, _, sl => sl
def YG (m : Nat) (xs : List Nat) (E' : List Blk) (st : St) : Prop :=
  okX m xs ∧ E'.length = m + xs.length ∧ subBE st.lk (lkB (newBlks (sigX m xs) E' 0)) (newBlks (sigX m xs) E' 0) ∧ extsOK st.lk (lkB (newBlks (sigX m xs) E' 0)) m ∧ st.lk defId = none
def YF (m : Nat) (lc : LoopC) (sl : List (Nat × AV)) (E' : List Blk) (b : Bool) (xs : List Nat) (st : St) (s : LoopState) (pd : Option Code) (b' : Bool) : Prop :=
  b' = b ∧ st.lk 0 = some (.loop lc .busy none sl) ∧ YG m xs E' (st.upd [(0, .loop lc s pd sl)])
def YB (m : Nat) (lc : LoopC) (sl : List (Nat × AV)) (E' : List Blk) (b : Bool) (xs : List Nat) : Ex → St → Prop
  | .normal, st => YF m lc sl E' b xs st .ready none true
  | .ret, st => YF m lc sl E' b xs st .done (some .ret) false
  | .exit i, st => YF m lc sl E' b xs st .done (some (.exit i)) false
def YA (P : Program) (C : Tbl) (wr : Bool) (D : Nat → List Nat) (U : Nat → Option CutS) (m : Nat) (lc : LoopC) (sl : List (Nat × AV)) (E' : List Blk) (b : Bool) (xs : List Nat) : Ex → St → Prop
  | .normal, st => st.lk 0 = some (.loop lc .ready none sl) ∧ W P C wr D U m lc.body (st.upd [(0, .loop lc .busy none sl)]) (YB m lc sl E' b xs)
  | .ret, _ => False
  | .exit _, _ => False
theorem YA_normal {P C wr D U m lc sl E' b xs st} : YA P C wr D U m lc sl E' b xs .normal st = (st.lk 0 = some (.loop lc .ready none sl) ∧ @V P C wr m (st.upd [(0, .loop lc .busy none sl)]) ⟨D⟩ ⟨U⟩ ⟨lc.body⟩ ⟨YB m lc sl E' b xs⟩) := rfl
def toStr : AV → List UInt8
  | .str s => s
  | _ => []
def toInt : AV → Int
  | .int _ n => n
  | _ => 0
def enc_u8 (c : UInt8) : AV := .int .u8 c.toNat
def dec_u8 (a : AV) : UInt8 := UInt8.ofNat (toInt a).toNat
theorem dec_u8_byte (c : UInt8) : UInt8.ofNat ((c.toNat : Int)).toNat = c := by simp
def listOf : AV → List AV
  | .list _ l => l
  | _ => []
def enc_strs (l : List (List UInt8)) : AV := .list 1 (l.map .str)
def dec_strs (a : AV) : List (List UInt8) := (listOf a).map toStr
def enc_ints (l : List Int) : AV := .list 1 (l.map (.int .i64))
def dec_ints (a : AV) : List Int := (listOf a).map toInt
def enc_bytes (l : List UInt8) : AV := .list 1 (l.map byteAV)
def dec_bytes (a : AV) : List UInt8 := (listOf a).map toByte
theorem map_str_toStr (l : List (List UInt8)) : (l.map AV.str).map toStr = l := by simp [List.map_map, Function.comp_def, toStr]
theorem map_int_toInt (l : List Int) : (l.map (AV.int .i64)).map toInt = l := by simp [List.map_map, Function.comp_def, toInt]
theorem toByte_byteAV (b : UInt8) : toByte (byteAV b) = b := by simp [toByte, byteAV]
theorem map_byte_toByte (l : List UInt8) : (l.map byteAV).map toByte = l := by simp [List.map_map, Function.comp_def, toByte_byteAV]
theorem getD_map_str (l : List (List UInt8)) (n : Nat) : (l.map AV.str).getD n (AV.str []) = AV.str (l.getD n []) := by
  simp only [List.getD_eq_getElem?_getD, List.getElem?_map]; cases l[n]? <;> rfl
theorem getD_map_int (l : List Int) (n : Nat) : (l.map (AV.int .i64)).getD n (AV.int .i64 0) = AV.int .i64 (l.getD n 0) := by
  simp only [List.getD_eq_getElem?_getD, List.getElem?_map]; cases l[n]? <;> rfl
theorem getD_map_byte (l : List UInt8) (n : Nat) : (l.map byteAV).getD n (AV.int .u8 0) = byteAV (l.getD n 0) := by
  simp only [List.getD_eq_getElem?_getD, List.getElem?_map]; cases l[n]? <;> rfl
theorem pureEl_str (l : List (List UInt8)) : pureEl (l.map AV.str) = true := pureEl_map _ l (fun x => rfl)
theorem pureEl_int (l : List Int) : pureEl (l.map (AV.int .i64)) = true := pureEl_map _ l (fun x => rfl)
theorem pureEl_byte (l : List UInt8) : pureEl (l.map byteAV) = true := pureEl_map _ l (fun x => rfl)
theorem contOK_pure {L : Nat → Option Blk} {c : List AV} (h : pureEl c = true) : contOK L c = True := eq_true (.inl h)
theorem pureEl_nil : pureEl [] = true := rfl
theorem pureEl_cons {x : AV} {r : List AV} : pureEl (x :: r) = (pureBL x.cells && pureEl r) := rfl
theorem pureEl_append {a b : List AV} : pureEl (a ++ b) = (pureEl a && pureEl b) := by simp [pureEl]
theorem contOK_ids {L : Nat → Option Blk} {c : List AV} (h : idsOKL L (c.flatMap AV.cells) = True) : contOK L c = True := eq_true (.inr (by rw [h]; trivial))
theorem u8_lit (c : UInt8) (n : Nat) (h : n < 256) : ((c.toNat : Int) = no_index (@OfNat.ofNat Int n instOfNat)) = (c = @OfNat.ofNat UInt8 n UInt8.instOfNat) := by
  apply propext
  constructor
  · intro e
    apply UInt8.toNat.inj
    have e' : c.toNat = n := by
      have : (c.toNat : Int) = (n : Int) := e
      omega
    rw [e']
    show n = (UInt8.ofNat n).toNat
    simp; omega
  · intro e
    subst e
    show (((UInt8.ofNat n).toNat : Nat) : Int) = (n : Int)
    simp; omega
theorem u8_inj (c b : UInt8) : ((c.toNat : Int) = (b.toNat : Int)) = (c = b) := propext ⟨fun h => UInt8.toNat.inj (by omega), fun h => by rw [h]⟩
theorem range_1 : List.range 1 = [0] := rfl
theorem range_2 : List.range 2 = [0, 1] := rfl
theorem range_3 : List.range 3 = [0, 1, 2] := rfl
theorem range_4 : List.range 4 = [0, 1, 2, 3] := rfl
theorem range_5 : List.range 5 = [0, 1, 2, 3, 4] := rfl
theorem range_6 : List.range 6 = [0, 1, 2, 3, 4, 5] := rfl
theorem range_7 : List.range 7 = [0, 1, 2, 3, 4, 5, 6] := rfl
theorem range_8 : List.range 8 = [0, 1, 2, 3, 4, 5, 6, 7] := rfl
theorem toNat_add2 (n : Nat) : ((n : Int) + 1 + 1).toNat = n + 2 := by omega
theorem toNat_sub1 (n : Nat) : ((n : Int) - 1).toNat = n - 1 := by omega
theorem toNat_add (n m : Nat) : ((n : Int) + (m : Int)).toNat = n + m := by omega
theorem toNat_lit (n m : Nat) : ((n : Int) + no_index (@OfNat.ofNat Int m instOfNat)).toNat = n + m := by
  show ((n : Int) + (m : Int)).toNat = n + m
  omega
theorem take_min {α : Type} (s : List α) (n : Nat) : List.take (min (s.length : Int) (no_index (@OfNat.ofNat Int n instOfNat))).toNat s = List.take n s := by
  show List.take (min (s.length : Int) (n : Int)).toNat s = List.take n s
  rcases Nat.le_total s.length n with h | h
  · rw [List.take_of_length_le h, List.take_of_length_le (by omega)]
  · congr 1; omega
theorem min_ge (a n : Nat) : (0 ≤ min (a : Int) (no_index (@OfNat.ofNat Int n instOfNat))) = True := by
  show (0 ≤ min (a : Int) (n : Int)) = True
  exact eq_true (by omega)
theorem min_le_l (a n : Nat) : (min (a : Int) (no_index (@OfNat.ofNat Int n instOfNat)) ≤ (a : Int)) = True := eq_true (by omega)
theorem take_map {α : Type} (f : α → AV) (l : List α) (n : Nat) : List.take n (List.map f l) = List.map f (List.take n l) := (List.map_take ..).symm
theorem drop_map {α : Type} (f : α → AV) (l : List α) (n : Nat) : List.drop n (List.map f l) = List.map f (List.drop n l) := (List.map_drop ..).symm
theorem allU8_byte (l : List UInt8) : (l.map byteAV).all isU8 = true := by simp [List.all_map, byteAV, isU8]
theorem cells_byte (b : UInt8) : (byteAV b).cells = [byteAV b] := rfl
def tbU8 (p : UInt8 → Bool) : List Blk → List AV → Option (List Blk × AV × Prop)
  | [], [.int .u8 b] => some ([], .bool (p (UInt8.ofNat b.toNat)), b = ((UInt8.ofNat b.toNat).toNat : Int))
  | _, _ => none
def tbI32 (p : Int → Bool) : List Blk → List AV → Option (List Blk × AV × Prop)
  | [], [.int .i32 b] => some ([], .bool (p b), True)
  | _, _ => none
def tbStr (p : List UInt8 → Bool) : List Blk → List AV → Option (List Blk × AV × Prop)
  | [], [.str b] => some ([], .bool (p b), True)
  | _, _ => none
theorem pidsL_map {α : Type} {f : α → AV} (h : ∀ x, pids (f x) = []) (l : List α) : pidsL (l.map f) = [] := by
  induction l with
  | nil => rfl
  | cons x r ih => simp [pidsL, h, ih]
theorem pidsL_append (a b : List AV) : pidsL (a ++ b) = pidsL a ++ pidsL b := by
  induction a with
  | nil => rfl
  | cons x r ih => simp [pidsL, ih]
theorem ren_map {α : Type} {f : α → AV} {σ : Nat → Nat} (h : ∀ x, ren σ (f x) = f x) (l : List α) : (l.map f).map (ren σ) = l.map f := by
  simp [List.map_map, Function.comp_def, h]
theorem notFz_any : notFz .any = true := rfl
theorem TyD_any {e : TypeId} : TyD .any e = True := rfl
theorem notFz_bool (b : Bool) : notFz (.bool b) = true := rfl
theorem TyD_bool (b : Bool) {e : TypeId} : TyD (.bool b) e = True := rfl
theorem notFz_int (k : IntKind) (n : Int) : notFz (.int k n) = true := rfl
theorem TyD_int (k : IntKind) (n : Int) {e : TypeId} : TyD (.int k n) e = True := rfl
theorem notFz_str (s : List UInt8) : notFz (.str s) = true := rfl
theorem TyD_str (s : List UInt8) {e : TypeId} : TyD (.str s) e = True := rfl
theorem notFz_agg (c : List AV) : notFz (.agg c) = true := rfl
theorem TyD_agg (c : List AV) {e : TypeId} : TyD (.agg c) e = True := rfl
theorem notFz_tuple (c : List AV) : notFz (.tuple c) = true := rfl
theorem TyD_tuple (c : List AV) {e : TypeId} : TyD (.tuple c) e = True := rfl
theorem notFz_nils : notFz .nils = true := rfl
theorem TyD_nils {e : TypeId} : TyD .nils e = True := rfl
theorem notFz_nil0 : notFz .nil0 = true := rfl
theorem TyD_nil0 {e : TypeId} : TyD .nil0 e = True := rfl
theorem notFz_nilp : notFz .nilp = true := rfl
theorem TyD_nilp {e : TypeId} : TyD .nilp e = True := rfl
theorem notFz_nili : notFz .nili = true := rfl
theorem TyD_nili {e : TypeId} : TyD .nili e = True := rfl
theorem notFz_nilf : notFz .nilf = true := rfl
theorem TyD_nilf {e : TypeId} : TyD .nilf e = True := rfl
theorem notFz_iface (t : TypeId) (v : AV) : notFz (.iface t v) = true := rfl
theorem notFz_list (z : Nat) (l : List AV) : notFz (.list z l) = true := rfl
theorem TyD_list (z : Nat) (l : List AV) {e : TypeId} : TyD (.list z l) e = True := rfl
theorem notFz_ref (a b c d : Nat) : notFz (.ref a b c d) = true := rfl
theorem TyD_ref (a b c d : Nat) {e : TypeId} : TyD (.ref a b c d) e = True := rfl
theorem notFz_ptr (a b c d : Nat) : notFz (.ptr a b c d) = true := rfl
theorem TyD_ptr (a b c d : Nat) {e : TypeId} : TyD (.ptr a b c d) e = True := rfl
theorem notFz_yld (a : Nat) : notFz (.yld a) = true := rfl
theorem TyD_yld (a : Nat) {e : TypeId} : TyD (.yld a) e = True := rfl
theorem notFz_clo (f : FuncId) (k : Nat) (c : List AV) : notFz (.clo f k c) = true := rfl
theorem TyD_clo (f : FuncId) (k : Nat) (c : List AV) {e : TypeId} : TyD (.clo f k c) e = True := rfl
theorem TyD_iface (t : TypeId) (v : AV) {e : TypeId} : TyD (.iface t v) e = (e = t) := rfl
theorem notFz_nxt (m : Bool) (p r : Int) : notFz (.nxt m p r) = false := rfl
theorem lblA_str {el : TypeId} {d : AV} (s : List UInt8) : lblA el d (.str s) = .iface el d := rfl
theorem lblA_nils {el : TypeId} {d : AV} : lblA el d .nils = d := rfl
theorem lblA_nil0 {el : TypeId} {d : AV} : lblA el d .nil0 = d := rfl
theorem lblA_list {el : TypeId} {d : AV} (z : Nat) (l : List AV) : lblA el d (.list z l) = d := rfl
theorem lblA_ref {el : TypeId} {d : AV} (i o n h : Nat) : lblA el d (.ref i o n h) = d := rfl
attribute [go_sem] notFz_any TyD_any notFz_bool TyD_bool notFz_int TyD_int notFz_str TyD_str notFz_agg TyD_agg notFz_tuple TyD_tuple notFz_nils TyD_nils notFz_nil0 TyD_nil0 notFz_nilp TyD_nilp notFz_nili TyD_nili notFz_nilf TyD_nilf notFz_iface notFz_list TyD_list notFz_ref TyD_ref notFz_ptr TyD_ptr notFz_yld TyD_yld notFz_clo TyD_clo TyD_iface notFz_nxt lblA_str lblA_nils lblA_nil0 lblA_list lblA_ref
theorem oneRef_mapT {α : Type} {f : α → AV} {l : List α} (h : (∀ x, refOf (f x) = none) = True) : oneRef (l.map f) = none := oneRef_map (of_eq_true h) l
theorem oneRef_appendT {α : Type} {f : α → AV} {l : List α} {b : List AV} (h : (∀ x, refOf (f x) = none) = True) (hb : (oneRef b = none) = True) : oneRef (l.map f ++ b) = none := oneRef_append (of_eq_true h) l b (of_eq_true hb)
theorem oneRef_repT {n : Nat} {v : AV} (h : (refOf v = none) = True) : oneRef (List.replicate n v) = none := oneRef_replicate n v (of_eq_true h)
theorem pidsL_mapT {α : Type} {f : α → AV} {l : List α} (h : (∀ x, pids (f x) = []) = True) : pidsL (l.map f) = [] := pidsL_map (of_eq_true h) l
theorem ren_mapT {α : Type} {f : α → AV} {σ : Nat → Nat} {l : List α} (h : (∀ x, ren σ (f x) = f x) = True) : (l.map f).map (ren σ) = l.map f := ren_map (of_eq_true h) l
theorem pureEl_mapT {α : Type} {f : α → AV} {l : List α} (h : (∀ x, pureBL (f x).cells = true) = True) : pureEl (l.map f) = true := pureEl_map f l (of_eq_true h)
theorem rdCv_ptr {P : Program} {L : Nat → Option Blk} {s d : TypeId} {id i j hw : Nat} : rdCv P L s d (.ptr id i j hw) = rdUns P L s d id i j hw := rfl
theorem rdCv_ref {P : Program} {L : Nat → Option Blk} {s d : TypeId} {id i j hw : Nat} : rdCv P L s d (.ref id i j hw) = rdText P L s d (.ref id i j hw) := rfl
theorem rdCv_list {P : Program} {L : Nat → Option Blk} {s d : TypeId} {sz : Nat} {l : List AV} : rdCv P L s d (.list sz l) = rdText P L s d (.list sz l) := rfl
theorem rdCv_nils {P : Program} {L : Nat → Option Blk} {s d : TypeId} : rdCv P L s d .nils = rdText P L s d .nils := rfl
theorem rdCv_nil0 {P : Program} {L : Nat → Option Blk} {s d : TypeId} : rdCv P L s d .nil0 = rdText P L s d .nil0 := rfl
theorem rdCv_str {P : Program} {L : Nat → Option Blk} {s d : TypeId} {t : List UInt8} : rdCv P L s d (.str t) = rdText P L s d (.str t) := rfl
theorem rdCv_int {P : Program} {L : Nat → Option Blk} {s d : TypeId} {k : IntKind} {n : Int} : rdCv P L s d (.int k n) = rdText P L s d (.int k n) := rfl
theorem dTy_iface {t : TypeId} {v : AV} : dTy (.iface t v) = some t := rfl
theorem lblB_int {t : TypeId} {d : AV} {k : IntKind} {n : Int} : lblB t d (.int k n) = d := rfl
theorem lblB_str {t : TypeId} {d : AV} {s : List UInt8} : lblB t d (.str s) = d := rfl
theorem lblB_bool {t : TypeId} {d : AV} {b : Bool} : lblB t d (.bool b) = d := rfl
theorem lblB_nils {t : TypeId} {d : AV} : lblB t d .nils = d := rfl
theorem lblB_nilp {t : TypeId} {d : AV} : lblB t d .nilp = d := rfl
theorem lblB_nili {t : TypeId} {d : AV} : lblB t d .nili = d := rfl
theorem lblB_nilf {t : TypeId} {d : AV} : lblB t d .nilf = d := rfl
theorem lblB_any {t : TypeId} {d : AV} : lblB t d .any = d := rfl
theorem lblB_agg0 {t : TypeId} {d : AV} : lblB t d (.agg []) = d := rfl
theorem lblB_agg {t : TypeId} {d x : AV} {r : List AV} : lblB t d (.agg (x :: r)) = lblB1 t d x r := rfl
theorem lblB1_int {t : TypeId} {d : AV} {r : List AV} {k : IntKind} {n : Int} : lblB1 t d (.int k n) r = d := rfl
theorem lblB1_str {t : TypeId} {d : AV} {r : List AV} {s : List UInt8} : lblB1 t d (.str s) r = d := rfl
theorem lblB1_bool {t : TypeId} {d : AV} {r : List AV} {b : Bool} : lblB1 t d (.bool b) r = d := rfl
theorem lblB1_nils {t : TypeId} {d : AV} {r : List AV} : lblB1 t d .nils r = d := rfl
theorem lblB1_nili {t : TypeId} {d : AV} {r : List AV} : lblB1 t d .nili r = d := rfl
theorem lblB1_nilf {t : TypeId} {d : AV} {r : List AV} : lblB1 t d .nilf r = d := rfl
theorem lblB1_nilp {t : TypeId} {d : AV} {r : List AV} : lblB1 t d .nilp r = lblB2 t d r := rfl
theorem lblB2_nil {t : TypeId} {d : AV} : lblB2 t d [] = d := rfl
theorem lblB2_one {t : TypeId} {d : AV} : lblB2 t d [.nils] = .iface t d := rfl
theorem lblB2_nilp {t : TypeId} {d : AV} {r : List AV} : lblB2 t d (.nilp :: r) = d := rfl
theorem lblB2_int {t : TypeId} {d : AV} {r : List AV} {k : IntKind} {n : Int} : lblB2 t d (.int k n :: r) = d := rfl
theorem lblB2_two {t : TypeId} {d x y : AV} {r : List AV} : lblB2 t d (x :: y :: r) = d := by cases x <;> rfl
theorem hasSl_nil : hasSl [] = false := rfl
theorem hasSl_list {z : Nat} {l : List AV} {r : List AV} : hasSl (.list z l :: r) = true := rfl
theorem hasSl_int {k : IntKind} {n : Int} {r : List AV} : hasSl (.int k n :: r) = hasSl r := rfl
theorem hasSl_str {t : List UInt8} {r : List AV} : hasSl (.str t :: r) = hasSl r := rfl
theorem hasSl_bool {b : Bool} {r : List AV} : hasSl (.bool b :: r) = hasSl r := rfl
theorem hasSl_nils {r : List AV} : hasSl (.nils :: r) = hasSl r := rfl
theorem hasSl_nilp {r : List AV} : hasSl (.nilp :: r) = hasSl r := rfl
theorem hasSl_nili {r : List AV} : hasSl (.nili :: r) = hasSl r := rfl
theorem hasSl_nilf {r : List AV} : hasSl (.nilf :: r) = hasSl r := rfl
theorem hasSl_any {r : List AV} : hasSl (.any :: r) = hasSl r := rfl
theorem hasSl_ref {a b c d : Nat} {r : List AV} : hasSl (.ref a b c d :: r) = hasSl r := rfl
theorem hasSl_ptr {a b c d : Nat} {r : List AV} : hasSl (.ptr a b c d :: r) = hasSl r := rfl
theorem hasSl_iface {t : TypeId} {v : AV} {r : List AV} : hasSl (.iface t v :: r) = hasSl r := rfl
theorem aggE1_t {L L' : Nat → Option Blk} {xs ys : List AV} : aggE1 L L' (.agg xs) ys true = aggE2 L L' xs ys := rfl
theorem aggE1_f {L L' : Nat → Option Blk} {v : AV} {ys : List AV} : aggE1 L L' v ys false = (v = .agg ys ∧ idsOK L' (.agg ys)) := by cases v <;> rfl
theorem aggE2_nil {L L' : Nat → Option Blk} : aggE2 L L' [] [] = True := rfl
theorem aggE2_cons {L L' : Nat → Option Blk} {x y : AV} {xs ys : List AV} : aggE2 L L' (x :: xs) (y :: ys) = (slotE0 L L' x y ∧ aggE2 L L' xs ys) := rfl
attribute [go_sem] hasSl_nil hasSl_list hasSl_int hasSl_str hasSl_bool hasSl_nils hasSl_nilp hasSl_nili hasSl_nilf hasSl_any hasSl_ref hasSl_ptr hasSl_iface aggE1_t aggE1_f aggE2_nil aggE2_cons slotE0
attribute [go_sem] rdCv_ptr rdCv_ref rdCv_list rdCv_nils rdCv_nil0 rdCv_str rdCv_int dTy_iface lblB_int lblB_str lblB_bool lblB_nils lblB_nilp lblB_nili lblB_nilf lblB_any lblB_agg0 lblB_agg lblB1_int lblB1_str lblB1_bool lblB1_nils lblB1_nili lblB1_nilf lblB1_nilp lblB2_nil lblB2_one lblB2_nilp lblB2_int lblB2_two rdUns unsP rdUSD efUStr es_usd es_ustr rdPeq rdPeq2 rdPeq1
attribute [go_sem] V_scope V_goto isBlk_list isBlk_radr isBlk_clist isBlk_cradr loadH_sl loadH_len WeakS_nil WeakS_cons swapB St.swap swapN kinvS_normal kinvS_exit kinvS_ret roB contE contX_some contX_none refE_one oneRef_nil oneRef_cons oneRef2_nil oneRef2_none oneRef_mapT oneRef_appendT oneRef_repT refOf_any refOf_bool refOf_int refOf_str refOf_agg refOf_tuple refOf_list refOf_nils refOf_nil0 refOf_nilp refOf_nili refOf_nilf refOf_yld refOf_ptr refOf_it refOf_clo refOf_cond refOf_radr refOf_ref slotE pidsL_mapT ren_mapT pureEl_mapT es_copy es_clear efCopy efClear V_range vr3_none vr3_ret vr3_exit vr2_some vr1b_some vr1_clo enterL YA_normal YB YF YG setP FinEM FinEvM St.del delL renS idsOKS pidsS efAppN loopId defId dN yldF List.range_zero V_skip V_label V_regF V_regT V_seq V_cond V_block V_loop V_exit V_ret kseq_normal kseq_exit kseq_ret kblk_normal kblk_exit kblk_ret kinv_normal kinv_exit kinv_ret VO_nil VO_cons VD_nil VD_cons sameH_nil sameH_cons loadH_nil loadH_call callNF callN1 callN2 deadOK noL loadH_load loadH_ia isBlk_ptr isBlk_ref isBlk_cptr isBlk_cref codesOf_nil codesOf_cons VP_none VPQ_none VP_some VPQ_some WeakE noAnyT subTE subBE blkE extsOK stepP_some stepQ_some grdP_nil grdP_cons grdP_none grdQ_nil grdQ_none cndP_bool cndP_own serP_true serP_false wrapP_some wrapE_some wrapP_none wrapE_none orR_some orR_none es_move es_lookup es_makeMap es_mapUpdate rdLookup efMakeMap efMapPut strKey refOf_mp es_makeInterface es_typeAssert evMkI evTA evIs evZero2 refOf_iface es_assign es_pick es_binOp es_unOp es_index es_field es_fieldAddr es_extract es_build es_nilCheck es_makeFunc es_max es_min es_load es_indexAddr es_slice es_convert es_len es_alloc es_box es_buildSlice es_makeSlice es_store es_range es_next es_append es_call guardE evPure evRead evEff evCall evCallP evPick evNilCheck evBuiltin evBin evUn evConv evExtract evIndex evField evFieldAddr evIndexAddr evSlice evLen evMax evMin evBuild boundA unO idOf rdLen rdIndexAddr rdSlice rdLoad rdLoad0 norm1 norm1_ptr0 rdText efStore arrT efBoxed boxC efBuildSlice efMake efBytes elemsA efRange efNext srcA srcT efAppend purA purL cel1_one Option.isSome_some AV.un AV.uc ucL opnds arithV arithP St.ev St.get St.lk St.put St.upd lkA lkB AV.ofVal St.init argT extB scal ren renL renB sig newBlks marks freshIds deadId addT nilT setAt fillA placesL AV.cells FinR FinS noAny subP resR slotE inR isBoolT AV.flat AV.shaped AV.one one1 oneT c0 c1 c2 c3 idsOK idsOKL evCall1 evCallH pids pidsL mids midsL hasId allIds blkIds reach idxOf sigH handE hpL keptOK sameBlks apartIds noDup orT_some orT_none FinE FinEv sigX okX argOK enc_u8 dec_u8 enc_strs dec_strs enc_ints dec_ints enc_bytes dec_bytes toStr toInt listOf map_str_toStr map_int_toInt map_byte_toByte dec_u8_byte pidsL_append pidsL_map ren_map call1a call1b call1c reachI handE1 hpArg hpJoin kept1 callHa callHb callHi orH_some orH_none evBinX evBinS evBinN listA evOwn evEqB evEqO evEqOp otherA evEq evEqS evEqF fldA eqInt eqBool eqStr eqPtr eqSl eqFn seqU_none seqU_some fstR kcut_normal kcut_exit kcut_ret isT_true gimp_T gimp_t gimp_f gimp_and gimp_isT gimp_gimp gimp_impB impB_self impB_T impB_t impB_f impB_and impB_l impB_r impB_nl impB_nr getD_map_str getD_map_int getD_map_byte pureEl_str pureEl_int pureEl_byte contOK_pure allU8_byte cells_byte byteAV pureEl_nil pureEl_cons pureEl_append contOK_ids pureBL AV.pureB u8_lit u8_inj tbU8 tbI32 tbStr toByte isU8 range_1 range_2 range_3 range_4 range_5 range_6 range_7 range_8 toNat_add2 toNat_sub1 toNat_add toNat_lit maxInt take_min min_ge min_le_l take_map drop_map List.map_cons List.map_nil List.map_toArray List.toList_toArray List.cons_append List.nil_append List.append_nil List.append_assoc Option.toList_some Option.toList_none List.getElem?_cons_zero List.getElem?_cons_succ List.getElem?_toArray List.size_toArray List.length_cons List.length_nil Option.getD_some Option.getD_none true_and and_true implies_true forall_const if_true if_false ite_true ite_false Bool.true_and Bool.and_true Bool.false_and Bool.and_false beq_self_eq_true beq_true beq_false imp_self false_implies and_self Bool.true_beq Bool.false_beq ne_eq not_false_eq_true Int.toNat_natCast ite_self Int.cast_ofNat_Int not_true_eq_false Int.le_refl UInt8.ofNat_toNat List.contains_nil List.contains_cons List.length_map Function.comp eq_self cond_true cond_false Bool.not_true Bool.not_false Bool.true_eq_false Bool.false_eq_true Bool.and_eq_true Bool.not_eq_true' Bool.not_eq_false' Bool.not_not and_imp List.take_succ_cons List.take_zero List.drop_succ_cons List.drop_zero List.mem_cons List.not_mem_nil forall_eq_or_imp or_false forall_eq false_or List.all_cons List.all_nil List.replicate_succ List.replicate_zero List.mem_nil_iff Option.map_some Option.map_none List.flatMap_cons List.flatMap_nil Bool.true_or Bool.or_true Bool.false_or Bool.or_false List.set_cons_zero List.set_cons_succ List.getD_cons_zero List.getD_cons_succ Bool.cond_true_left Bool.cond_false_right Bool.or_eq_true Bool.or_eq_false_iff decide_eq_true_eq decide_eq_false_iff_not Int.not_lt Int.not_le
end Go.Abs
end
