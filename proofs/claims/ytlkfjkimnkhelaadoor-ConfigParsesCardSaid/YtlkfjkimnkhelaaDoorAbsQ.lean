/- The rule for a function: what the evaluator says of its body is its contract. No condition. -/
import Derived.Test.YtlkfjkimnkhelaaDoorAbsP
set_option linter.unusedVariables false
set_option linter.unusedSimpArgs false
namespace Go.Abs

def argT : List AV → Nat → List (Nat × AV)
  | [], _ => []
  | a :: r, i => (i, a) :: argT r (i + 1)
def extB : List Blk → Nat → List (Nat × Blk)
  | [], _ => []
  | b :: r, i => (i, b) :: extB r (i + 1)
def St.init (E : List Blk) (args : List AV) : St := ⟨argT args 0, extB E 0⟩

theorem argT_get (t : Nat) : ∀ (l : List AV) (i : Nat), lkA (argT l i) t = if t < i then .any else l.getD (t - i) .any
  | [], i => by simp [argT, lkA]
  | a :: r, i => by
    simp only [argT, lkA]
    by_cases e : i = t
    · subst e; simp
    · rw [if_neg e, argT_get t r (i + 1)]
      by_cases h : t < i
      · rw [if_pos h, if_pos (by omega)]
      · rw [if_neg h, if_neg (by omega), show t - i = (t - (i + 1)) + 1 by omega]
        simp
theorem extB_get (t : Nat) : ∀ (l : List Blk) (i : Nat), lkB (extB l i) t = if t < i then none else l[t - i]?
  | [], i => by simp [extB, lkB]
  | a :: r, i => by
    simp only [extB, lkB]
    by_cases e : i = t
    · subst e; simp
    · rw [if_neg e, extB_get t r (i + 1)]
      by_cases h : t < i
      · rw [if_pos h, if_pos (by omega)]
      · rw [if_neg h, if_neg (by omega), show t - i = (t - (i + 1)) + 1 by omega]
        simp

/-- The names of the blocks that a function hands back: m that it was handed, then those of xs. -/
def sigX (m : Nat) (xs : List Nat) (i : Nat) : Nat := if i < m then i else xs.getD (i - m) deadId
def okX (m : Nat) : List Nat → Prop
  | [] => True
  | x :: r => m ≤ x ∧ x < deadId ∧ x ∉ r ∧ okX m r

def packV : List Value → Value
  | [v] => v
  | l => .tuple l.toArray

def resAV : List AV → AV
  | [r] => r
  | l => .tuple l

theorem rdLoad_addr {P : Program} {L : Nat → Option Blk} {t : TypeId} {x v' : AV} {p : Prop} {w : World} {ok : Nat → Nat → Prop} {φ : Nat → Option Nat} {vx : Value} (h : rdLoad P L t x = some (v', p)) (hx : R w ok L φ x vx) : ∃ pa, vx = .pointer (some pa) := by
  unfold rdLoad at h
  replace hx := hx.norm1
  generalize norm1 L x = y at h hx
  unfold rdLoad0 at h
  split at h
  · cases hx with
    | pure _ _ hx => cases hx; exact ⟨_, rfl⟩
  · cases hx with
    | pure _ _ hx => cases hx
    | ptr => exact ⟨_, rfl⟩
  · cases h

/-- The results, as the state tells them. -/
def resR (P : Program) (L : Nat → Option Blk) (g : Nat → AV) : List ResultVar → Option (List AV × Prop)
  | [] => some ([], True)
  | .tmp t :: r => match resR P L g r with
    | some (l, p) => some (g t :: l, p)
    | none => none
  | .cell a t :: r => match rdLoad P L t (g a).un, resR P L g r with
    | some (v, q), some (l, p) => some (v :: l, (g a).uc ∧ q ∧ p)
    | _, _ => none

def rvOf (tm : Array Value) : ResultVar → Sem Value
  | .tmp t => pure (tm.getD t undef)
  | .cell a t => do loadVar t (← asAddr (tm.getD a undef))

theorem results_eq (fn : Func) (tm : Array Value) : results fn tm = (do let vs ← fn.results.mapM (rvOf tm); pure (if h : vs.size = 1 then vs[0] else .tuple vs)) := by
  have e : (fun r => match r with
    | ResultVar.tmp t => (pure (tm.getD t undef) : Sem Value)
    | .cell a t => do loadVar t (← asAddr (tm.getD a undef))) = rvOf tm := by
    funext r; cases r <;> rfl
  unfold results
  exact congrArg (fun f => (do let vs ← fn.results.mapM f; pure (if h : vs.size = 1 then vs[0] else .tuple vs) : Sem Value)) e

theorem resR_ok {P : Program} {w : World} {ok : Nat → Nat → Prop} {L : Nat → Option Blk} {φ : Nat → Option Nat} {g : Nat → AV} {tm : Array Value} (hh : HeapOK w ok L φ) (hg : ∀ t, R w ok L φ (g t) (tm.getD t undef)) :
    ∀ (rl : List ResultVar) (l : List AV) (p : Prop), resR P L g rl = some (l, p) → p → l.length = rl.length ∧ ∃ vs : List Value, vs.length = l.length ∧ (∀ (i : Nat) (a : AV) (v : Value), l[i]? = some a → vs[i]? = some v → R w ok L φ a v) ∧
      (rl.mapM (rvOf tm)).run P w = .ok vs w
  | [], l, p, h, hp => by
    simp only [resR, Option.some.injEq, Prod.mk.injEq] at h
    obtain ⟨rfl, rfl⟩ := h
    exact ⟨rfl, [], rfl, fun i a v hi => by simp at hi, by simp⟩
  | .tmp t :: r, l, p, h, hp => by
    simp only [resR] at h
    split at h <;> simp only [Option.some.injEq, Prod.mk.injEq, reduceCtorEq] at h
    rename_i l1 p1 h1
    obtain ⟨rfl, rfl⟩ := h
    obtain ⟨g1, vs, g2, g3, g4⟩ := resR_ok hh hg r l1 p1 h1 hp
    refine ⟨by simp [g1], tm.getD t undef :: vs, by simp [g2], fun i a v ha hv => ?_, ?_⟩
    · cases i with
      | zero => simp at ha hv; subst ha; subst hv; have := hg t; simpa using this
      | succ i => exact g3 i a v (by simpa using ha) (by simpa using hv)
    · rw [List.mapM_cons, Sem.run_bind]
      simp only [rvOf, Sem.run_pure, Result.andThen_ok, Sem.run_bind, g4]
  | .cell a t :: r, l, p, h, hp => by
    simp only [resR] at h
    split at h <;> simp only [Option.some.injEq, Prod.mk.injEq, reduceCtorEq] at h
    rename_i v1 q1 l1 p1 h0 h1
    obtain ⟨rfl, rfl⟩ := h
    obtain ⟨hu, hq, hp1⟩ := hp
    obtain ⟨v, k1, k2⟩ := rdLoad_ok h0 hq hh ((hg a).un hu)
    obtain ⟨pa, hpa⟩ := rdLoad_addr h0 ((hg a).un hu)
    obtain ⟨g1, vs, g2, g3, g4⟩ := resR_ok hh hg r l1 p1 h1 hp1
    refine ⟨by simp [g1], v :: vs, by simp [g2], fun i a v ha hv => ?_, ?_⟩
    · cases i with
      | zero => simp at ha hv; subst ha; subst hv; exact k2
      | succ i => exact g3 i a v (by simpa using ha) (by simpa using hv)
    · rw [List.mapM_cons, Sem.run_bind]
      have : (rvOf tm (.cell a t)).run P w = .ok v w := by
        rw [← k1]; simp only [rvOf, Instr.loadAt, hpa, asAddr, Instr.sureAddr]
      simp only [this, Sem.run_pure, Result.andThen_ok, Sem.run_bind, g4]

theorem results_run {P : Program} {fn : Func} {w w' : World} {tm : Array Value} {rl : List ResultVar} {vs : List Value} (h : fn.results = rl.toArray) (hr : (rl.mapM (rvOf tm)).run P w = .ok vs w') :
    (results fn tm).run P w = .ok (packV vs) w' := by
  rw [results_eq, h, List.mapM_toArray, Sem.run_bind]
  simp only [map_eq_pure_bind, Sem.run_bind, hr, Result.andThen_ok, Sem.run_pure]
  rcases vs with _ | ⟨v, _ | ⟨u, vs⟩⟩ <;> simp [packV]

def subS (L L' : Nat → Option Blk) : List AV → List AV → Prop
  | [], [] => True
  | v :: r, v' :: r' => slotOK L L' v v' ∧ subS L L' r r'
  | _, _ => False

/-- What the function leaves. -/
def Ret (P : Program) (m : Nat) (rl : List ResultVar) (E' : List Blk) (res : List AV) (st : St) : Prop :=
  ∃ l p xs, resR P st.lk st.get rl = some (l, p) ∧ p ∧ okX m xs ∧ E'.length = m + xs.length ∧ subS st.lk (lkB (newBlks (sigX m xs) E' 0)) l (renL (sigX m xs) res) ∧
    subB st.lk (lkB (newBlks (sigX m xs) E' 0)) (newBlks (sigX m xs) E' 0) ∧ extsOK st.lk (lkB (newBlks (sigX m xs) E' 0)) m ∧ st.lk defId = none

def FinR (P : Program) (m : Nat) (rl : List ResultVar) (E' : List Blk) (res : List AV) : Ex → St → Prop
  | .exit _, _ => False
  | .normal, st => Ret P m rl E' res st
  | .ret, st => Ret P m rl E' res st

def subP (L L' : Nat → Option Blk) : List AV → List AV → Prop
  | [], [] => True
  | v :: r, v' :: r' => slotE L L' v v' ∧ subP L L' r r'
  | _, _ => False
def noAny : List AV → Bool
  | [] => true
  | .any :: _ => false
  | _ :: r => noAny r
theorem subP_ok {L L' : Nat → Option Blk} : ∀ {l l' : List AV}, noAny l' = true → subP L L' l l' → subS L L' l l'
  | [], [], _, _ => trivial
  | [], _ :: _, _, h => h
  | _ :: _, [], _, h => h
  | v :: r, v' :: r', hn, h => by
    have h1 : v' ≠ .any := fun e => by subst e; simp [noAny] at hn
    have h2 : noAny r' = true := by cases v' <;> first | exact hn | exact absurd rfl h1
    rcases slotE_ok h.1 with h3 | h3
    · exact absurd h3 h1
    · exact ⟨h3, subP_ok h2 h.2⟩

def resT (k : Nat) : List AV → List (Nat × AV)
  | [] => []
  | v :: s => (k, v) :: resT (k + 1) s
theorem resT_get (rest : List (Nat × AV)) (t : Nat) : ∀ (l : List AV) (k : Nat), lkA (resT k l ++ rest) t = if k ≤ t ∧ t < k + l.length then l.getD (t - k) .any else lkA rest t
  | [], k => by simp [resT]; omega
  | v :: s, k => by
    simp only [resT, List.cons_append, lkA]
    by_cases e : k = t
    · subst e; simp
    · rw [if_neg e, resT_get rest t s (k + 1)]
      by_cases h : k + 1 ≤ t ∧ t < k + 1 + s.length
      · rw [if_pos h, if_pos (by simp; omega), show t - k = (t - (k + 1)) + 1 by omega]
        simp
      · rw [if_neg h, if_neg (by simp; omega)]
theorem resT_sub {st : St} {L' : Nat → Option Blk} : ∀ (l l' : List AV) (k : Nat), subS st.lk L' l l' → (∀ i, i < l.length → st.get (k + i) = l.getD i .any) → subT st L' (resT k l')
  | [], [], k, _, _ => trivial
  | [], _ :: _, k, h, _ => h.elim
  | _ :: _, [], k, h, _ => h.elim
  | v :: r, v' :: r', k, h, hg => by
    refine ⟨?_, resT_sub r r' (k + 1) h.2 (fun i hi => ?_)⟩
    · have := hg 0 (by simp)
      simp only [Nat.add_zero] at this
      rw [this]; exact h.1
    · have := hg (i + 1) (by simpa using hi)
      rw [show k + 1 + i = k + (i + 1) by omega, this]; simp
theorem subS_len {L L' : Nat → Option Blk} : ∀ {l l' : List AV}, subS L L' l l' → l.length = l'.length
  | [], [], _ => rfl
  | [], _ :: _, h => h.elim
  | _ :: _, [], h => h.elim
  | v :: r, v' :: r', h => by simp [subS_len h.2]

theorem okX_mem {m : Nat} : ∀ {xs : List Nat}, okX m xs → ∀ x ∈ xs, m ≤ x ∧ x < deadId
  | [], _, x, h => by simp at h
  | a :: r, h, x, hx => by
    rcases List.mem_cons.1 hx with rfl | hx
    · exact ⟨h.1, h.2.1⟩
    · exact okX_mem h.2.2.2 x hx
theorem okX_nodup {m : Nat} : ∀ {xs : List Nat}, okX m xs → xs.Nodup
  | [], _ => List.nodup_nil
  | a :: r, h => List.nodup_cons.2 ⟨h.2.2.1, okX_nodup h.2.2.2⟩

theorem sigX_inj {m : Nat} {xs : List Nat} (h : okX m xs) : ∀ i j, i < m + xs.length → j < m + xs.length → sigX m xs i = sigX m xs j → i = j := by
  intro i j hi hj e
  have get : ∀ k, ¬ k < m → k < m + xs.length → ∃ hk : k - m < xs.length, sigX m xs k = xs[k - m] := fun k h1 h2 => ⟨by omega, by
    simp only [sigX, if_neg h1]
    rw [List.getD_eq_getElem?_getD, List.getElem?_eq_getElem (by omega)]; rfl⟩
  by_cases h1 : i < m <;> by_cases h2 : j < m
  · simpa [sigX, h1, h2] using e
  · obtain ⟨hk, e2⟩ := get j h2 hj
    rw [e2] at e
    simp only [sigX, if_pos h1] at e
    have := (okX_mem h _ (List.getElem_mem hk)).1
    omega
  · obtain ⟨hk, e2⟩ := get i h1 hi
    rw [e2] at e
    simp only [sigX, if_pos h2] at e
    have := (okX_mem h _ (List.getElem_mem hk)).1
    omega
  · obtain ⟨hk, e2⟩ := get i h1 hi
    obtain ⟨hk', e3⟩ := get j h2 hj
    rw [e2, e3] at e
    have := (List.getElem_inj (okX_nodup h)).1 e
    omega

theorem resAV_R {w ok L φ} {res : List AV} {vs : List Value} (hl : vs.length = res.length) (h : ∀ (i : Nat) (a : AV) (v : Value), res[i]? = some a → vs[i]? = some v → R w ok L φ a v) :
    R w ok L φ (resAV res) (packV vs) := by
  rcases res with _ | ⟨a, _ | ⟨b, r⟩⟩
  · rcases vs with _ | ⟨v, vs⟩
    · exact .tuple [] [] rfl h
    · simp at hl
  · rcases vs with _ | ⟨v, _ | ⟨u, vs⟩⟩
    · simp at hl
    · exact h 0 a v rfl rfl
    · simp at hl
  · rcases vs with _ | ⟨v, _ | ⟨u, vs⟩⟩
    · simp at hl
    · simp at hl
    · exact .tuple (a :: b :: r) (v :: u :: vs) hl h

/-- The caller's blocks, told again under the callee's names. -/
theorem Keeps.back {w ok L φ w' ok' L' φ' ok'' E' σ V} (k : Keeps w ok L φ w' ok' L' φ') (hs : Hands L' E' σ V E'.length) (hid : ∀ i, L i ≠ none → σ i = i) (hok : ∀ b o, ok' b o → ok'' b o) :
    Keeps w ok L φ w' ok'' (lkE E') (fun i => φ' (σ i)) := by
  refine ⟨fun b o hb => hok _ _ (k.okUp b o hb), k.cell, fun id sz ro d c hL => ?_, fun id bb hL hcc => ?_⟩
  · obtain ⟨ro', d', c', h1, h2, h3⟩ := k.cells id sz ro d c hL
    have e := hid id (by rw [hL]; simp)
    rw [← e] at h1
    obtain ⟨b', h4, h5⟩ := hs.back _ _ h1
    cases b' <;> simp only [renB, Blk.cells.injEq, reduceCtorEq] at h5
    obtain ⟨rfl, rfl, rfl, rfl⟩ := h5
    refine ⟨_, _, _, h4, by simpa using h2, fun e2 => ?_⟩
    simp only [e]
    exact h3 (by simpa using e2)
  · obtain ⟨b1, h1, h2, h3⟩ := k.obj id bb hL hcc
    have e := hid id (by rw [hL]; simp)
    rw [← e] at h1
    obtain ⟨b', h4, h5⟩ := hs.back _ _ h1
    subst h5
    exact ⟨_, h4, Blk.same_trans h2 (renB_same' (Blk.same_notC h2)), by simp only [e]; exact h3⟩

/-- What is left of the call's own blocks goes by; the results are those of vs'. -/
theorem Sim.post {N : Nat} {E E' : List Blk} {φ : Nat → Option Nat} {ok : Nat → Nat → Prop} {w w' : World} {st' : St} {ok1 : Nat → Nat → Prop} {φ1 : Nat → Option Nat} {a' : Act} {l res : List AV} {vs' : List Value} {xs : List Nat}
    (hS1 : Sim N (lkE E) φ ok w st' ok1 φ1 a' w') (hEd : E.length ≤ deadId) (hvl : vs'.length = l.length) (hvr : ∀ (i : Nat) (a : AV) (v : Value), l[i]? = some a → vs'[i]? = some v → R w' ok1 st'.lk φ1 a v)
    (h1 : okX E.length xs) (h2 : E'.length = E.length + xs.length) (h5 : subS st'.lk (lkB (newBlks (sigX E.length xs) E' 0)) l (renL (sigX E.length xs) res))
    (h6 : subB st'.lk (lkB (newBlks (sigX E.length xs) E' 0)) (newBlks (sigX E.length xs) E' 0)) (h7 : extsOK st'.lk (lkB (newBlks (sigX E.length xs) E' 0)) E.length) :
    ∃ ok' φ', PostE w ok (lkE E) φ w' ok' φ' (lkE E') (resAV res) (packV vs') := by
  have hlr := subS_len h5
  rw [renL_eq, List.length_map] at hlr
  -- the results beside the slots
  have hSx : Sim (N + vs'.length) (lkE E) φ ok w ⟨resT N l ++ st'.tmps, st'.L⟩ ok1 φ1 { a' with tmps := a'.tmps ++ vs'.toArray } w' := by
    refine ⟨fun t => ?_, by simp [hS1.size], hS1.defers, hS1.heap, hS1.kept, hS1.frame, hS1.own, hS1.okDn⟩
    show R w' ok1 st'.lk φ1 (lkA (resT N l ++ st'.tmps) t) _
    rw [resT_get]
    by_cases ht : N ≤ t ∧ t < N + l.length
    · rw [if_pos ht]
      have e1 : l[t - N]? = some (l[t - N]'(by omega)) := List.getElem?_eq_getElem _
      have e2 : vs'[t - N]? = some (vs'[t - N]'(by omega)) := List.getElem?_eq_getElem _
      have : (a'.tmps ++ vs'.toArray).getD t undef = vs'[t - N]'(by omega) := by
        rw [Array.getD_eq_getD_getElem?, Array.getElem?_append_right (by rw [hS1.size]; omega), hS1.size]
        simp [e2]
      rw [this, List.getD_eq_getElem?_getD, e1]
      exact hvr _ _ _ e1 e2
    · rw [if_neg ht]
      by_cases ht2 : t < N
      · have : (a'.tmps ++ vs'.toArray).getD t undef = a'.tmps.getD t undef := by
          rw [Array.getD_eq_getD_getElem?, Array.getElem?_append_left (by rw [hS1.size]; omega), ← Array.getD_eq_getD_getElem?]
        rw [this]; exact hS1.slots t
      · have : (a'.tmps ++ vs'.toArray).getD t undef = a'.tmps.getD t undef := by
          rw [Array.getD_eq_getD_getElem?, Array.getD_eq_getD_getElem?, Array.getElem?_eq_none (by simp [hS1.size]; omega), Array.getElem?_eq_none (by rw [hS1.size]; omega)]
        rw [this]; exact hS1.slots t
  obtain ⟨ok2, φ2, hS2⟩ := hSx.weak0 (m := E.length) (st' := ⟨resT N (renL (sigX E.length xs) res), newBlks (sigX E.length xs) E' 0⟩) (fun i hi => by
    rcases Nat.lt_or_ge i E.length with h' | h'
    · exact h'
    · exact absurd (List.getElem?_eq_none_iff.2 h') hi) ⟨resT_sub l _ N h5 (fun i hi => by
      show lkA (resT N l ++ st'.tmps) (N + i) = _
      rw [resT_get, if_pos (by omega), Nat.add_sub_cancel_left]), h6, h7⟩
  have hinj : ∀ i j, i < E'.length → j < E'.length → sigX E.length xs i = sigX E.length xs j → i = j := fun i j hi hj e => sigX_inj h1 i j (by omega) (by omega) e
  have hlook : ∀ j, lkB (newBlks (sigX E.length xs) E' 0) j = match (List.range' 0 E'.length).find? (fun k => sigX E.length xs k == j) with | some k => (E'[k - 0]?).map (renB (sigX E.length xs)) | none => none := fun j => by
    have := newBlks_lk (sigX E.length xs) j [] E' 0 (fun a b _ ha _ hb e => hinj a b (by omega) (by omega) e)
    rw [List.append_nil] at this
    rw [this]
    cases (List.range' 0 E'.length).find? (fun k => sigX E.length xs k == j) <;> rfl
  have hands : Hands (lkB (newBlks (sigX E.length xs) E' 0)) E' (sigX E.length xs) [] E'.length := by
    refine ⟨fun i b hb => ⟨?_, by simp⟩, fun i hi => ?_, hinj, Nat.le_refl _⟩
    · have hi := (List.getElem?_eq_some_iff.1 hb).1
      rw [hlook, ← List.range_eq_range', find_self hinj hi]
      simp [hb]
    · rw [hlook, ← List.range_eq_range']
      have hσ : sigX E.length xs i = deadId := by
        simp only [sigX]
        rw [if_neg (by omega), List.getD_eq_getElem?_getD, List.getElem?_eq_none (by omega)]; rfl
      rw [hσ]
      cases hf : (List.range E'.length).find? (fun k => sigX E.length xs k == deadId) with
      | none => rfl
      | some k =>
        obtain ⟨g1, g2⟩ := find_some hf
        exfalso
        simp only [sigX] at g2
        by_cases hk : k < E.length
        · rw [if_pos hk] at g2; omega
        · rw [if_neg hk, List.getD_eq_getElem?_getD, List.getElem?_eq_getElem (by omega)] at g2
          have := (okX_mem h1 _ (List.getElem_mem (l := xs) (n := k - E.length) (by omega))).2
          simp only [Option.getD_some] at g2
          omega
  have hheap := hS2.heap.callee hands
  refine ⟨_, _, ⟨hS2.frame, hheap, ?_, hS2.kept.back hands (fun i hi => ?_) (fun _ _ h => .inl h), fun i b hi => hS2.own _ b hi, fun b o hb => ?_⟩⟩
  · refine resAV_R (vs := vs') (by omega) (fun i a v ha hv => ?_)
    have hi := (List.getElem?_eq_some_iff.1 ha).1
    have hslot := hS2.slots (N + i)
    have hget : St.get ⟨resT N (renL (sigX E.length xs) res), newBlks (sigX E.length xs) E' 0⟩ (N + i) = Abs.ren (sigX E.length xs) a := by
      have := resT_get [] (N + i) (renL (sigX E.length xs) res) N
      rw [List.append_nil] at this
      show lkA _ _ = _
      rw [this, if_pos (by rw [renL_eq, List.length_map]; omega), Nat.add_sub_cancel_left, List.getD_eq_getElem?_getD]
      simp [renL_eq, ha]
    have hval : (a'.tmps ++ vs'.toArray).getD (N + i) undef = v := by
      rw [Array.getD_eq_getD_getElem?, Array.getElem?_append_right (by rw [hS1.size]; omega), hS1.size]
      simp [hv]
    rw [hget] at hslot
    simp only [hval] at hslot
    refine R.unren (sigX E.length xs) (fun j b hb => ?_) (fun _ _ h => .inl h) hslot a rfl
    obtain ⟨b', g1, g2⟩ := hands.back j b hb
    exact ⟨b', g1, g2, rfl⟩
  · have : i < E.length := by
      rcases Nat.lt_or_ge i E.length with h' | h'
      · exact h'
      · exact absurd (List.getElem?_eq_none_iff.2 h') hi
    simp [sigX, this]
  · rcases hb with hb | ⟨id, hid, g1, g2⟩
    · exact hS2.okDn b o hb
    · simp at hid

theorem spec_of {P : Program} {C : Tbl} {wr : Bool} {D : Nat → List Nat} {U : Nat → Option CutS} {f N : Nat} {fn : Func} {c : Code} {rl : List ResultVar} {E E' : List Blk} {args res : List AV}
    (hm : P.follows .mixedOrders = true) (hC : TblOK P C) (hcl : callable P f = true) (hy : f ≠ yldF) (hf : P.funcs[f]? = some fn) (hb : fn.body = some c) (hN : fn.ntmps = N) (hrs : fn.results = rl.toArray)
    (hok : (codeOK P N D c && decide (args.length ≤ N) && decide (E.length ≤ deadId)) = true)
    (h : W P C wr D U E.length c (St.init E args) (FinR P E.length rl E' res)) : SpecE P f E args E' (resAV res) := by
  simp only [Bool.and_eq_true, decide_eq_true_eq] at hok
  obtain ⟨⟨hok, hal⟩, hEd⟩ := hok
  intro w ok φ vs hh hl hr
  refine CallsX.calls hcl hy ?_
  refine (callsIn_wide (n := 0)).1 (callsIn_of_wp hf hb trivial ?_)
  have hlk : ∀ i, (St.init E args).lk i = lkE E i := fun i => by simp [St.lk, St.init, extB_get, lkE]
  have hlk' : (St.init E args).lk = lkE E := funext hlk
  have hS : Sim N (lkE E) φ ok w (St.init E args) ok φ { tmps := vs.toArray ++ Array.replicate (fn.ntmps - vs.toArray.size) undef, defers := [] } w := by
    refine ⟨fun t => ?_, ?_, .inl rfl, by rw [hlk']; exact hh, by rw [hlk']; exact Keeps.refl _ _ _ _, Fr.refl _ _, fun id b hb => .inl ⟨id, hb⟩, fun b o hb => .inl hb⟩
    · rw [hlk']
      simp only [St.get, St.init, argT_get, Nat.not_lt_zero, if_false, Nat.sub_zero]
      by_cases ht : t < args.length
      · have h1 : args[t]? = some args[t] := List.getElem?_eq_getElem ht
        have h2 : vs[t]? = some vs[t] := List.getElem?_eq_getElem (by omega)
        rw [List.getD_eq_getElem?_getD, h1]
        have : (vs.toArray ++ Array.replicate (fn.ntmps - vs.toArray.size) undef).getD t undef = vs[t] := by
          rw [Array.getD_eq_getD_getElem?, Array.getElem?_append_left (by simp; omega)]
          simp [h2]
        simp only [this, Option.getD_some]
        exact hr t _ _ h1 h2
      · rw [List.getD_eq_getElem?_getD, List.getElem?_eq_none (by omega)]
        exact .pure _ _ (.any _)
    · simp [hl, hN]; omega
  refine wpIn_mono (W_wp (.inl rfl) (N := N) (L0 := lkE E) (φ0 := φ) (ok0 := ok) (w0 := w) hm hC (fun i hi => by
      rcases Nat.lt_or_ge i E.length with h' | h'
      · exact h'
      · exact absurd (List.getElem?_eq_none_iff.2 h') hi) c _ _ ok φ _ w (.inl rfl) hok (fun e s t he hs => ?_) h hS) (fun e a' w' hp => ?_)
  · have k : ∀ {s t}, StEq s t → Ret P E.length rl E' res s → Ret P E.length rl E' res t := by
      rintro s t he ⟨l, p, xs, h1, h2, h3, h4, h5, h6, h7⟩
      refine ⟨l, p, xs, by rw [← he.2, ← he.1]; exact h1, h2, h3, h4, by rw [← he.2]; exact h5, by rw [← he.2]; exact h6, by rw [← he.2]; exact h7.1, by rw [← he.2]; exact h7.2⟩
    cases e with
    | normal => exact k he hs
    | exit i => exact hs
    | ret => exact k he hs
  · obtain ⟨e', st', ok1, φ1, rfl, hq, hS1⟩ := hp
    have main : Ret P E.length rl E' res st' → a'.defers = [] ∧ ∃ v, (results fn a'.tmps).run P w' = .ok v w' ∧
        (∃ v' ok' φ', Ending.returned v = .returned v' ∧ PostE w ok (lkE E) φ w' ok' φ' (lkE E') (resAV res) v') := by
      rintro ⟨l, p, xs, hres, hp, h1, h2, h5, h6, h7, h8⟩
      obtain ⟨hll, vs', hvl, hvr, hrun⟩ := resR_ok hS1.heap hS1.slots rl l p hres hp
      have hds : a'.defers = [] := by
        rcases hS1.defers with g1 | ⟨b, g1, _⟩
        · exact g1
        · rw [h8] at g1; cases g1
      obtain ⟨ok2, φ2, post⟩ := hS1.post hEd hvl hvr h1 h2 h5 h6 h7
      exact ⟨hds, _, results_run hrs hrun, _, ok2, φ2, rfl, post⟩
    cases e' with
    | normal => exact main hq
    | exit i => exact hq.elim
    | ret => exact main hq

/-- The same behind a range over a function: the block for the rounds' deferred calls is given up. -/
def RetM (P : Program) (m : Nat) (rl : List ResultVar) (E' : List Blk) (res : List AV) (st : St) : Prop := Ret P m rl E' res st.del ∧ ∀ b, st.lk defId = some b → b = .defer
def FinM (P : Program) (m : Nat) (rl : List ResultVar) (E' : List Blk) (res : List AV) : Ex → St → Prop
  | .exit _, _ => False
  | .normal, st => RetM P m rl E' res st
  | .ret, st => RetM P m rl E' res st

theorem spec_ofM {P : Program} {C : Tbl} {wr : Bool} {D : Nat → List Nat} {U : Nat → Option CutS} {f N : Nat} {fn : Func} {c : Code} {rl : List ResultVar} {E E' : List Blk} {args res : List AV}
    (hm : P.follows .mixedOrders = true) (hC : TblOK P C) (hcl : callable P f = true) (hy : f ≠ yldF) (hf : P.funcs[f]? = some fn) (hb : fn.body = some c) (hN : fn.ntmps = N) (hrs : fn.results = rl.toArray)
    (hok : (codeOK P N D c && decide (args.length ≤ N) && decide (E.length ≤ defId)) = true)
    (h : W P C wr D U E.length c (St.init E args) (FinM P E.length rl E' res)) : SpecE P f E args E' (resAV res) := by
  simp only [Bool.and_eq_true, decide_eq_true_eq] at hok
  obtain ⟨⟨hok, hal⟩, hEd⟩ := hok
  intro w ok φ vs hh hl hr
  refine CallsX.calls hcl hy ?_
  refine (callsIn_wide (n := 0)).1 (callsIn_of_wp_marks hf hb trivial ?_)
  have hlk : ∀ i, (St.init E args).lk i = lkE E i := fun i => by simp [St.lk, St.init, extB_get, lkE]
  have hlk' : (St.init E args).lk = lkE E := funext hlk
  have hS : Sim N (lkE E) φ ok w (St.init E args) ok φ { tmps := vs.toArray ++ Array.replicate (fn.ntmps - vs.toArray.size) undef, defers := [] } w := by
    refine ⟨fun t => ?_, ?_, .inl rfl, by rw [hlk']; exact hh, by rw [hlk']; exact Keeps.refl _ _ _ _, Fr.refl _ _, fun id b hb => .inl ⟨id, hb⟩, fun b o hb => .inl hb⟩
    · rw [hlk']
      simp only [St.get, St.init, argT_get, Nat.not_lt_zero, if_false, Nat.sub_zero]
      by_cases ht : t < args.length
      · have h1 : args[t]? = some args[t] := List.getElem?_eq_getElem ht
        have h2 : vs[t]? = some vs[t] := List.getElem?_eq_getElem (by omega)
        rw [List.getD_eq_getElem?_getD, h1]
        have : (vs.toArray ++ Array.replicate (fn.ntmps - vs.toArray.size) undef).getD t undef = vs[t] := by
          rw [Array.getD_eq_getD_getElem?, Array.getElem?_append_left (by simp; omega)]
          simp [h2]
        simp only [this, Option.getD_some]
        exact hr t _ _ h1 h2
      · rw [List.getD_eq_getElem?_getD, List.getElem?_eq_none (by omega)]
        exact .pure _ _ (.any _)
    · simp [hl, hN]; omega
  refine wpIn_mono (W_wp (.inl rfl) (N := N) (L0 := lkE E) (φ0 := φ) (ok0 := ok) (w0 := w) hm hC (fun i hi => by
      rcases Nat.lt_or_ge i E.length with h' | h'
      · exact h'
      · exact absurd (List.getElem?_eq_none_iff.2 h') hi) c _ _ ok φ _ w (.inl rfl) hok (fun e s t he hs => ?_) h hS) (fun e a' w' hp => ?_)
  · have k0 : ∀ {s t}, StEq s t → Ret P E.length rl E' res s → Ret P E.length rl E' res t := by
      rintro s t he ⟨l, p, xs, h1, h2, h3, h4, h5, h6, h7⟩
      refine ⟨l, p, xs, by rw [← he.2, ← he.1]; exact h1, h2, h3, h4, by rw [← he.2]; exact h5, by rw [← he.2]; exact h6, by rw [← he.2]; exact h7.1, by rw [← he.2]; exact h7.2⟩
    have k : ∀ {s t}, StEq s t → Ret P E.length rl E' res s.del → Ret P E.length rl E' res t.del := fun {s t} he hs => @k0 s.del t.del ⟨he.1, by rw [del_lk, del_lk, he.2]⟩ hs
    cases e with
    | normal => exact ⟨k he hs.1, by rw [← he.2]; exact hs.2⟩
    | exit i => exact hs
    | ret => exact ⟨k he hs.1, by rw [← he.2]; exact hs.2⟩
  · obtain ⟨e', st', ok1, φ1, rfl, hq, hS1⟩ := hp
    have main : RetM P E.length rl E' res st' → LeavesInM Fence.wide 0 P fn a'.tmps (fun e w' => ∃ v ok' φ', e = .returned v ∧ PostE w ok (lkE E) φ w' ok' φ' (lkE E') (resAV res) v) a'.defers .returning w' := by
      rintro ⟨⟨l, p, xs, hres, hp, h1, h2, h5, h6, h7, h8⟩, hdd⟩
      have h0 : lkE E defId = none := List.getElem?_eq_none (by omega)
      have hEd' : E.length ≤ deadId := by simp only [deadId, defId] at hEd ⊢; omega
      have fin : ∀ {w2 : World}, Sim N (lkE E) φ ok w st'.del ok1 (dropF φ1) { a' with defers := [] } w2 → ∃ v, (results fn a'.tmps).run P w2 = .ok v w2 ∧ ∃ v' ok' φ', Ending.returned v = .returned v' ∧ PostE w ok (lkE E) φ w2 ok' φ' (lkE E') (resAV res) v' := by
        intro w2 S2
        obtain ⟨hll, vs', hvl, hvr, hrun⟩ := resR_ok S2.heap S2.slots rl l p hres hp
        obtain ⟨ok2, φ2, post⟩ := S2.post hEd' hvl hvr h1 h2 h5 h6 h7
        exact ⟨_, results_run hrs hrun, _, ok2, φ2, rfl, post⟩
      rcases hS1.defers with g1 | ⟨b, g1, g2, g3⟩
      · rw [g1]
        exact fin (hS1.drop h0 hdd rfl rfl rfl rfl (fun _ _ => rfl))
      · rw [g3]
        obtain ⟨b', o, k1, k2, k3⟩ := hS1.heap.obj _ _ g1 rfl
        rw [g2] at k1; cases k1
        cases k3
        have hdel : (st'.del).lk defId = none := h8
        refine ⟨by simp, .inl ⟨b, _, rfl, run_takeDeferred k2, ?_⟩⟩
        exact fin (hS1.drop h0 hdd rfl rfl rfl (by simp) (fun k hk => World.putObj_heap_other (fun e => hk (by rw [e]; exact g2))))
    cases e' with
    | normal => exact main hq
    | exit i => exact hq.elim
    | ret => exact main hq

def bodyOf (f : Func) : Code := match f.body with | some c => c | none => .skip
def rlOf (f : Func) : List ResultVar := f.results.toList
def fnOK (P : Program) (f : Func) (D : Nat → List Nat) (nE nA : Nat) : Bool :=
  f.body.isSome && codeOK P f.ntmps D (bodyOf f) && decide (nA ≤ f.ntmps) && decide (nE ≤ defId) && (!(f.name == "runtime.NumGoroutine") && decide (P.funcs.size ≤ 1000000))
theorem fnOK_call {P : Program} {f : Nat} {fn : Func} {D : Nat → List Nat} {nE nA : Nat} (hf : P.funcs[f]? = some fn) (h : fnOK P fn D nE nA = true) : callable P f = true ∧ f ≠ yldF := by
  simp only [fnOK, Bool.and_eq_true, decide_eq_true_eq] at h
  obtain ⟨⟨⟨⟨h1, _⟩, _⟩, _⟩, h2, h3⟩ := h
  refine ⟨by simp only [callable, hf, h1, h2, Bool.and_self], fun e => ?_⟩
  have := (Array.getElem?_eq_some_iff.1 hf).1
  simp only [yldF] at e
  omega

theorem specF {P : Program} {C : Tbl} {wr : Bool} {D : Nat → List Nat} {U : Nat → Option CutS} {f : Nat} {fn : Func} {E E' : List Blk} {args res : List AV} {nE nA : Nat}
    (hm : P.follows .mixedOrders = true) (hC : TblOK P C) (hf : P.funcs[f]? = some fn) (hok : fnOK P fn D nE nA = true) (hE : E.length = nE) (hA : args.length = nA)
    (h : W P C wr D U nE (bodyOf fn) (St.init E args) (FinR P nE (rlOf fn) E' res)) : SpecE P f E args E' (resAV res) := by
  obtain ⟨hcl, hy⟩ := fnOK_call hf hok
  simp only [fnOK, Bool.and_eq_true, decide_eq_true_eq] at hok
  obtain ⟨⟨⟨⟨h1, h2⟩, h3⟩, h4⟩, _⟩ := hok
  subst hE hA
  refine spec_of (rl := rlOf fn) (N := fn.ntmps) (c := bodyOf fn) hm hC hcl hy hf ?_ rfl (by simp [rlOf]) ?_ h
  · unfold bodyOf
    cases hb : fn.body with
    | none => rw [hb] at h1; cases h1
    | some c => rfl
  · simp only [Bool.and_eq_true, decide_eq_true_eq]
    exact ⟨⟨h2, h3⟩, by simp only [deadId, defId] at h4 ⊢; omega⟩

theorem specFM {P : Program} {C : Tbl} {wr : Bool} {D : Nat → List Nat} {U : Nat → Option CutS} {f : Nat} {fn : Func} {E E' : List Blk} {args res : List AV} {nE nA : Nat}
    (hm : P.follows .mixedOrders = true) (hC : TblOK P C) (hf : P.funcs[f]? = some fn) (hok : fnOK P fn D nE nA = true) (hE : E.length = nE) (hA : args.length = nA)
    (h : W P C wr D U nE (bodyOf fn) (St.init E args) (FinM P nE (rlOf fn) E' res)) : SpecE P f E args E' (resAV res) := by
  obtain ⟨hcl, hy⟩ := fnOK_call hf hok
  simp only [fnOK, Bool.and_eq_true, decide_eq_true_eq] at hok
  obtain ⟨⟨⟨⟨h1, h2⟩, h3⟩, h4⟩, _⟩ := hok
  subst hE hA
  refine spec_ofM (rl := rlOf fn) (N := fn.ntmps) (c := bodyOf fn) hm hC hcl hy hf ?_ rfl (by simp [rlOf]) ?_ h
  · unfold bodyOf
    cases hb : fn.body with
    | none => rw [hb] at h1; cases h1
    | some c => rfl
  · simp only [Bool.and_eq_true, decide_eq_true_eq]
    exact ⟨⟨h2, h3⟩, h4⟩

/-- The ends of a function that hands back no block. -/
def FinS (P : Program) (rl : List ResultVar) (res : List AV) : Ex → St → Prop
  | .exit _, _ => False
  | .normal, st => match resR P st.lk st.get rl with
    | some (l, p) => p ∧ noAny res = true ∧ subP st.lk (fun _ => none) l res ∧ st.lk defId = none
    | none => False
  | .ret, st => match resR P st.lk st.get rl with
    | some (l, p) => p ∧ noAny res = true ∧ subP st.lk (fun _ => none) l res ∧ st.lk defId = none
    | none => False

theorem ret0 {P : Program} {rl : List ResultVar} {res : List AV} {st : St} (hp : ∀ σ, renL σ res = res) (h : match resR P st.lk st.get rl with
    | some (l, p) => p ∧ noAny res = true ∧ subP st.lk (fun _ => none) l res ∧ st.lk defId = none
    | none => False) : Ret P 0 rl [] res st := by
  split at h
  · rename_i l p hr
    exact ⟨l, p, [], hr, h.1, trivial, rfl, by rw [hp]; exact subP_ok h.2.1 h.2.2.1, trivial, .inl h.2.2.2, h.2.2.2⟩
  · exact h.elim

theorem specF0 {P : Program} {C : Tbl} {wr : Bool} {D : Nat → List Nat} {U : Nat → Option CutS} {f : Nat} {fn : Func} {args res : List AV} {nA : Nat}
    (hm : P.follows .mixedOrders = true) (hC : TblOK P C) (hf : P.funcs[f]? = some fn) (hok : fnOK P fn D 0 nA = true) (hA : args.length = nA) (hp : ∀ σ, renL σ res = res)
    (h : W P C wr D U 0 (bodyOf fn) (St.init [] args) (FinS P (rlOf fn) res)) : SpecE P f [] args [] (resAV res) := by
  refine specF hm hC hf hok rfl hA (W_mono _ _ _ _ (fun e s hs => ?_) h)
  cases e with
  | normal => exact ret0 hp hs
  | exit i => exact hs
  | ret => exact ret0 hp hs

/-! ### tables -/
def nilT : Tbl := fun _ _ _ => none
def orT (a b : Option (List Blk × AV × Prop)) : Option (List Blk × AV × Prop) := match a with | some r => some r | none => b
theorem orT_some {r b} : orT (some r) b = some r := rfl
theorem orT_none {b} : orT none b = b := rfl
def addT (C : Tbl) (f : FuncId) (c : List Blk → List AV → Option (List Blk × AV × Prop)) : Tbl := fun g E args => if g = f then orT (c E args) (C g E args) else C g E args
theorem nilT_ok {P : Program} : TblOK P nilT := fun f E args E' res p h => by simp [nilT] at h
theorem addT_ok {P : Program} {C : Tbl} {f : FuncId} {c : List Blk → List AV → Option (List Blk × AV × Prop)} (h : TblOK P C) (hc : (callable P f || true) = true)
    (hs : ∀ E args E' res p, c E args = some (E', res, p) → p → SpecE P f E args E' res) : TblOK P (addT C f c) := by
  intro g E args E' res p hg
  simp only [addT] at hg
  split at hg
  · rename_i e
    subst e
    cases hce : c E args with
    | some r =>
      rw [hce] at hg
      simp only [orT, Option.some.injEq] at hg
      subst hg
      exact hs E args E' res p hce
    | none =>
      rw [hce] at hg
      exact h g E args E' res p hg
  · exact h g E args E' res p hg

def c0 (g : AV) (q : Prop) : List Blk → List AV → Option (List Blk × AV × Prop)
  | [], [] => some ([], g, q)
  | _, _ => none
def c1 (k : IntKind) (g : Int → AV) (q : Int → Prop) : List Blk → List AV → Option (List Blk × AV × Prop)
  | [], [.int k' a] => if k' = k then some ([], g a, q a) else none
  | _, _ => none
def c2 (g : Int → Int → AV) (q : Int → Int → Prop) : List Blk → List AV → Option (List Blk × AV × Prop)
  | [], [.int .i64 a, .int .i64 b] => some ([], g a b, q a b)
  | _, _ => none
def c3 (g : Int → Int → Int → AV) (q : Int → Int → Int → Prop) : List Blk → List AV → Option (List Blk × AV × Prop)
  | [], [.int .i64 a, .int .i64 b, .int .i64 c] => some ([], g a b c, q a b c)
  | _, _ => none
theorem add0 {P : Program} {C : Tbl} {f : FuncId} {g : AV} {q : Prop} (h : TblOK P C) (hc : (callable P f || true) = true) (hs : q → SpecE P f [] [] [] g) : TblOK P (addT C f (c0 g q)) :=
  addT_ok h hc fun E args E' res p hg hp => by
    unfold c0 at hg
    split at hg <;> simp only [Option.some.injEq, Prod.mk.injEq, reduceCtorEq] at hg
    obtain ⟨rfl, rfl, rfl⟩ := hg; exact hs hp
theorem add1 {P : Program} {C : Tbl} {f : FuncId} {k : IntKind} {g : Int → AV} {q : Int → Prop} (h : TblOK P C) (hc : (callable P f || true) = true) (hs : ∀ a, q a → SpecE P f [] [.int k a] [] (g a)) : TblOK P (addT C f (c1 k g q)) :=
  addT_ok h hc fun E args E' res p hg hp => by
    unfold c1 at hg
    split at hg
    · split at hg <;> simp only [Option.some.injEq, Prod.mk.injEq, reduceCtorEq] at hg
      rename_i e; subst e
      obtain ⟨rfl, rfl, rfl⟩ := hg; exact hs _ hp
    · cases hg
theorem add2 {P : Program} {C : Tbl} {f : FuncId} {g : Int → Int → AV} {q : Int → Int → Prop} (h : TblOK P C) (hc : (callable P f || true) = true) (hs : ∀ a b, q a b → SpecE P f [] [.int .i64 a, .int .i64 b] [] (g a b)) : TblOK P (addT C f (c2 g q)) :=
  addT_ok h hc fun E args E' res p hg hp => by
    unfold c2 at hg
    split at hg <;> simp only [Option.some.injEq, Prod.mk.injEq, reduceCtorEq] at hg
    obtain ⟨rfl, rfl, rfl⟩ := hg; exact hs _ _ hp
theorem add3 {P : Program} {C : Tbl} {f : FuncId} {g : Int → Int → Int → AV} {q : Int → Int → Int → Prop} (h : TblOK P C) (hc : (callable P f || true) = true) (hs : ∀ a b c, q a b c → SpecE P f [] [.int .i64 a, .int .i64 b, .int .i64 c] [] (g a b c)) : TblOK P (addT C f (c3 g q)) :=
  addT_ok h hc fun E args E' res p hg hp => by
    unfold c3 at hg
    split at hg <;> simp only [Option.some.injEq, Prod.mk.injEq, reduceCtorEq] at hg
    obtain ⟨rfl, rfl, rfl⟩ := hg; exact hs _ _ _ hp
end Go.Abs
