import Derived.Test.YtoegojolimaodaaGreatDoorShRC
import Derived.ChangeArms
import Derived.DataReads
import Derived.ChangeSlices
section
set_option linter.unusedVariables false
set_option linter.unusedSimpArgs false
namespace Go.Abs
theorem wf_inR {k : IntKind} {n : Int} (h : (Lit.int k n).wf = true) : inR k n := by
  cases k <;> simp [Lit.wf, IntKind.min, IntKind.max, IntKind.bits, IntKind.signed] at h <;> simp only [inR] <;> omega
def offsB (P : Program) : Nat → List Field → Bool
  | _, [] => true
  | o, f :: r => decide (f.offset = o) && offsB P (o + P.cellsOf f.type) r
def endF (P : Program) : Nat → List Field → Nat
  | o, [] => o
  | o, f :: r => endF P (o + P.cellsOf f.type) r
def plainTyB (P : Program) : Nat → TypeId → Bool
  | 0, _ => false
  | n + 1, t => match P.underlying t with
    | some .bool => decide (P.cellsOf t = 1) && decide (aggT P t = some false)
    | some (.int _) => decide (P.cellsOf t = 1) && decide (aggT P t = some false)
    | some .string => decide (P.cellsOf t = 1) && decide (aggT P t = some false)
    | some (.slice e) => decide (P.cellsOf t = 1) && decide (aggT P t = some false) && plainTyB P n e && decide (0 < P.cellsOf e)
    | some (.struct fs) => decide (aggT P t = some true) && fs.toList.all (fun f => plainTyB P n f.type) && offsB P 0 fs.toList && decide (endF P 0 fs.toList = P.cellsOf t)
    | _ => false
def mkE (P : Program) (e : TypeId) (cs : List AV) : AV := match aggT P e with
  | some true => .agg cs
  | _ => cs.headD .any
def TyF (ty : TypeId → List AV → Prop) : List Field → List AV → Prop
  | [], as => as = []
  | f :: r, as => ∃ a b, as = a ++ b ∧ ty f.type a ∧ TyF ty r b
def TyA (P : Program) : Nat → TypeId → List AV → Prop
  | 0, _, _ => False
  | n + 1, t, as => match P.underlying t with
    | some .bool => ∃ b, as = [.bool b]
    | some (.int k) => ∃ i, as = [.int k i] ∧ inR k i
    | some .string => ∃ s, as = [.str s] ∧ s.length ≤ maxLen
    | some (.slice e) => ∃ l, as = [.list (P.cellsOf e) l] ∧ l.length ≤ maxLen ∧ ∀ x ∈ l, ∃ cs, x = mkE P e cs ∧ TyA P n e cs
    | some (.struct fs) => TyF (TyA P n) fs.toList as
    | _ => False
theorem tyF_len {P : Program} {n : Nat} : ∀ {fs : List Field} {as : List AV} {o : Nat}, (∀ f ∈ fs, ∀ cs, TyA P n f.type cs → cs.length = P.cellsOf f.type) → TyF (TyA P n) fs as → o + as.length = endF P o fs
  | [], as, o, _, h => by simp only [TyF] at h; subst h; simp [endF]
  | f :: r, as, o, hl, h => by
    obtain ⟨a, b, rfl, h1, h2⟩ := h
    have := tyF_len (o := o + P.cellsOf f.type) (fun g hg => hl g (by simp [hg])) h2
    simp only [endF, List.length_append, hl f (by simp) a h1]
    omega
theorem tyA_len {P : Program} : ∀ (n : Nat) (t : TypeId) (as : List AV), plainTyB P n t = true → TyA P n t as → as.length = P.cellsOf t ∧ (mkE P t as).cells = as
  | 0, t, as, h, _ => by simp [plainTyB] at h
  | n + 1, t, as, hp, h => by
    simp only [plainTyB] at hp
    simp only [TyA] at h
    split at h
    · rename_i hu
      obtain ⟨b, rfl⟩ := h
      simp only [hu, Bool.and_eq_true, decide_eq_true_eq] at hp
      exact ⟨by simp [hp.1], by simp [mkE, hp.2, AV.cells]⟩
    · rename_i k hu
      obtain ⟨b, rfl, _⟩ := h
      simp only [hu, Bool.and_eq_true, decide_eq_true_eq] at hp
      exact ⟨by simp [hp.1], by simp [mkE, hp.2, AV.cells]⟩
    · rename_i hu
      obtain ⟨b, rfl, _⟩ := h
      simp only [hu, Bool.and_eq_true, decide_eq_true_eq] at hp
      exact ⟨by simp [hp.1], by simp [mkE, hp.2, AV.cells]⟩
    · rename_i e hu
      obtain ⟨b, rfl, _⟩ := h
      simp only [hu, Bool.and_eq_true, decide_eq_true_eq] at hp
      exact ⟨by simp [hp.1.1.1], by simp [mkE, hp.1.1.2, AV.cells]⟩
    · rename_i fs hu
      simp only [hu, Bool.and_eq_true, decide_eq_true_eq, List.all_eq_true] at hp
      have := tyF_len (o := 0) (fun f hf cs hc => (tyA_len n f.type cs (hp.1.1.2 f hf) hc).1) h
      refine ⟨by omega, by simp [mkE, hp.1.1.1, AV.cells]⟩
    · exact h.elim
section
variable {H : Type} {enc : TypeId × Value → H} {P : Program} {w : World} {base : Nat} {sp : Nat → Bool} {held : Bool}
def Opn (w : World) (as : List AV) (cs : List Value) : Prop :=
  as.length = cs.length ∧ (∀ v ∈ cs, v.oneCell' = true) ∧ ∀ (i : Nat) (a : AV) (v : Value), as[i]? = some a → cs[i]? = some v → Rp w (fun b _ => b < w.heap.size) a v
theorem Opn.append {as as' cs cs'} (h : Opn w as cs) (h' : Opn w as' cs') : Opn w (as ++ as') (cs ++ cs') := by
  refine ⟨by simp [h.1, h'.1], fun v hv => by rcases List.mem_append.1 hv with hv | hv; exact h.2.1 v hv; exact h'.2.1 v hv, fun i a v ha hv => ?_⟩
  rw [List.getElem?_append] at ha hv
  split at ha
  · rename_i hlt
    rw [if_pos (by rw [← h.1]; exact hlt)] at hv
    exact h.2.2 i a v ha hv
  · rename_i hlt
    rw [if_neg (by rw [← h.1]; exact hlt), ← h.1] at hv
    exact h'.2.2 _ a v ha hv
theorem opn_fields {n : Nat} {cs : List Value} {sub : Field → List Value} : ∀ (fs : List Field) (o : Nat), offsB P o fs = true → endF P o fs = cs.length → o ≤ cs.length →
    (∀ f ∈ fs, ∃ as, Opn w as ((cs.drop f.offset).take (P.cellsOf f.type)) ∧ TyA P n f.type as ∧ as.length = P.cellsOf f.type) → ∃ as, Opn w as (cs.drop o) ∧ TyF (TyA P n) fs as
  | [], o, _, he, _, _ => by
    simp only [endF] at he
    subst he
    exact ⟨[], ⟨by simp, by simp, by simp⟩, rfl⟩
  | f :: r, o, ho, he, hle, hf => by
    simp only [offsB, Bool.and_eq_true, decide_eq_true_eq] at ho
    simp only [endF] at he
    obtain ⟨a, h1, h2, h3⟩ := hf f (by simp)
    rw [ho.1] at h1
    have hl := h1.1
    simp only [List.length_take, List.length_drop, h3] at hl
    obtain ⟨b, h4, h5⟩ := opn_fields r (o + P.cellsOf f.type) ho.2 he (by omega) (fun g hg => hf g (by simp [hg])) (sub := sub)
    refine ⟨a ++ b, ?_, a, b, rfl, h2, h5⟩
    have e : cs.drop o = (cs.drop o).take (P.cellsOf f.type) ++ cs.drop (o + P.cellsOf f.type) := by
      rw [← List.drop_drop, List.take_append_drop]
    rw [e]
    exact h1.append h4
theorem open_cells : ∀ (n fuel : Nat) (t : TypeId) (cs : List Value) (x : DataW H × List MemPlace), plainTyB P n t = true → DataW.trod enc P w base sp held fuel t cs = some x → ∃ as, Opn w as cs ∧ TyA P n t as
  | 0, _, t, _, _, hp, _ => by simp [plainTyB] at hp
  | n + 1, fuel, t, cs, x, hp, h => by
    have one : ∀ (a : AV) (v : Value), v.oneCell' = true → Rp w (fun b _ => b < w.heap.size) a v → Opn w [a] [v] := by
      intro a v h1 h2
      refine ⟨rfl, by simpa using h1, fun i a' v' ha hv => ?_⟩
      cases i with
      | zero => simp at ha hv; subst ha; subst hv; exact h2
      | succ i => simp at ha
    simp only [plainTyB] at hp
    split at hp
    · rename_i hu
      obtain ⟨b, rfl, _⟩ := DataW.trod_bool hu h
      exact ⟨[.bool b], one _ _ rfl (.bool b), by simp only [TyA, hu]; exact ⟨b, rfl⟩⟩
    · rename_i k hu
      obtain ⟨i, rfl, _, hw⟩ := DataW.trod_int hu h
      exact ⟨[.int k i], one _ _ rfl (.int k i), by simp only [TyA, hu]; exact ⟨i, rfl, wf_inR hw⟩⟩
    · rename_i hu
      obtain ⟨s, rfl, _, hw⟩ := DataW.trod_string hu h
      refine ⟨[.str s.data.toList], one _ _ rfl ?_, by simp only [TyA, hu]; exact ⟨_, rfl, by rw [Array.length_toList]; exact hw⟩⟩
      have := Rp.str (w := w) (ok := fun b _ => b < w.heap.size) s.data.toList
      simpa using this
    · rename_i e hu
      simp only [Bool.and_eq_true, decide_eq_true_eq] at hp
      obtain ⟨⟨⟨hc1, hag⟩, hpe⟩, hpos⟩ := hp
      rcases DataW.trod_slice hu h with ⟨rfl, _⟩ | ⟨a, len, cap, elems, rest, m, _, rfl, _, hb, hl, hm, hlen, hel, _, _⟩
      · exact ⟨[.list (P.cellsOf e) []], one _ _ rfl (.list0 _ none 0 (Nat.zero_le _)), by simp only [TyA, hu]; exact ⟨[], rfl, Nat.zero_le _, by simp⟩⟩
      · by_cases hz : len = 0
        · subst hz
          exact ⟨[.list (P.cellsOf e) []], one _ _ rfl (.list0 _ (some a) cap hm), by simp only [TyA, hu]; exact ⟨[], rfl, Nat.zero_le _, by simp⟩⟩
        have each : ∀ i, ∃ as : List AV, ∃ us : List Value, i < len → w.cells? base (a.add (i * P.cellsOf e)) (P.cellsOf e) = some us ∧ Opn w as us ∧ TyA P n e as := by
          intro i
          by_cases hi : i < len
          · have h1 := hel i hi
            have h2 : elems[i]? = some elems[i] := List.getElem?_eq_getElem (by omega)
            rw [h2, Option.bind_eq_some_iff] at h1
            obtain ⟨us, h3, h4⟩ := h1
            obtain ⟨as, h5, h6⟩ := open_cells n m e us _ hpe h4
            exact ⟨as, us, fun _ => ⟨h3, h5, h6⟩⟩
          · exact ⟨[], [], fun h => absurd h hi⟩
        obtain ⟨f, hf⟩ := Classical.axiomOfChoice each
        obtain ⟨g, hg⟩ := Classical.axiomOfChoice hf
        have hcell : ∀ i, i < len → ∀ j, j < P.cellsOf e → w.cell? ((a.add (i * P.cellsOf e)).add j) = (g i)[j]? ∧ j < (g i).length := by
          intro i hi j hj
          obtain ⟨h1, _, _⟩ := hg i hi
          obtain ⟨_, h3, h4⟩ := World.cells?_some h1
          exact ⟨h4 j hj, by rw [h3]; exact hj⟩
        obtain ⟨b, off, spot⟩ := a
        have hspot : spot = none := by
          have h0 := hcell 0 (by omega) 0 hpos
          have hgl : (g 0)[0]? = some (g 0)[0] := List.getElem?_eq_getElem h0.2
          rw [hgl] at h0
          simpa [Addr.add] using World.cell?_spot h0.1
        subst hspot
        have hadd : ∀ i j, (((⟨b, off, none⟩ : Addr).add (i * P.cellsOf e)).add j) = ⟨b, off + i * P.cellsOf e + j, none⟩ := fun i j => by rw [addr_add_plain, addr_add_plain]
        have hE : ∀ i, i < len → (mkE P e (f i)).cells = f i ∧ (f i).length = P.cellsOf e := fun i hi => by
          obtain ⟨_, _, h3⟩ := hg i hi
          obtain ⟨h4, h5⟩ := tyA_len n e (f i) hpe h3
          exact ⟨h5, h4⟩
        have hget : ∀ (i : Nat) (x : AV), ((List.range len).map fun i => mkE P e (f i))[i]? = some x → i < len ∧ x = mkE P e (f i) := by
          intro i x hx
          have hi : i < len := by have := (List.getElem?_eq_some_iff.1 hx).1; simpa using this
          rw [List.getElem?_map, List.getElem?_range hi] at hx
          simp at hx
          exact ⟨hi, hx.symm⟩
        have hll : ((List.range len).map fun i => mkE P e (f i)).length = len := by simp
        refine ⟨[.list (P.cellsOf e) ((List.range len).map fun i => mkE P e (f i))], ?_, ?_⟩
        · refine one _ _ rfl ?_
          have key := Rp.list (w := w) (ok := fun b _ => b < w.heap.size) (P.cellsOf e) ((List.range len).map fun i => mkE P e (f i)) b off cap (fun i j => (g i).getD j undef) (by rw [hll]; exact hl) hm
            (fun i x hx => by obtain ⟨hi, rfl⟩ := hget i x hx; rw [(hE i hi).1]; exact (hE i hi).2)
            (fun i x j y hx hy => by
              obtain ⟨hi, rfl⟩ := hget i x hx
              rw [(hE i hi).1] at hy
              have hj : j < P.cellsOf e := by rw [← (hE i hi).2]; exact (List.getElem?_eq_some_iff.1 hy).1
              obtain ⟨h1, h2⟩ := hcell i hi j hj
              rw [hadd] at h1
              have h3 : (g i)[j]? = some (g i)[j] := List.getElem?_eq_getElem h2
              have h4 : (g i).getD j undef = (g i)[j] := by simp [List.getD_eq_getElem?_getD, h3]
              refine ⟨?_, by rw [h1, h3, h4], ?_⟩
              · rw [h3] at h1
                unfold World.cell? at h1
                split at h1
                · rename_i hb'; exact (Array.getElem?_eq_some_iff.1 hb').1
                · cases h1
              · rw [h4]; exact (hg i hi).2.1.2.1 _ (List.getElem_mem h2))
            (fun i x j y hx hy => by
              obtain ⟨hi, rfl⟩ := hget i x hx
              rw [(hE i hi).1] at hy
              have hj : j < P.cellsOf e := by rw [← (hE i hi).2]; exact (List.getElem?_eq_some_iff.1 hy).1
              obtain ⟨h1, h2⟩ := hcell i hi j hj
              have h3 : (g i)[j]? = some (g i)[j] := List.getElem?_eq_getElem h2
              have h4 : (g i).getD j undef = (g i)[j] := by simp [List.getD_eq_getElem?_getD, h3]
              rw [h4]
              exact (hg i hi).2.1.2.2 j y _ hy h3)
          rwa [hll] at key
        · simp only [TyA, hu]
          refine ⟨_, rfl, by rw [hll]; omega, fun x hx => ?_⟩
          obtain ⟨i, hi, rfl⟩ := List.mem_map.1 hx
          exact ⟨f i, rfl, (hg i (by simpa using hi)).2.2⟩
    · rename_i fs hu
      simp only [Bool.and_eq_true, decide_eq_true_eq, List.all_eq_true] at hp
      obtain ⟨⟨⟨hag, hall⟩, hoff⟩, hend⟩ := hp
      obtain ⟨xs, m, _, _, hlen, hxs, hf⟩ := DataW.trod_struct hu h
      obtain ⟨as, h1, h2⟩ := opn_fields (w := w) (n := n) (cs := cs) (P := P) (sub := fun _ => []) fs.toList 0 hoff (by rw [hlen]; exact hend) (Nat.zero_le _) (fun f hf' => by
        obtain ⟨i, hi⟩ := List.getElem?_of_mem hf'
        have hi' : fs[i]? = some f := by simpa using hi
        have h3 := hf i f hi'
        have hlt : i < xs.length := by rw [hxs]; exact (Array.getElem?_eq_some_iff.1 hi').1
        rw [List.getElem?_eq_getElem hlt] at h3
        obtain ⟨as, h4, h5⟩ := open_cells n m f.type _ _ (hall f hf') h3
        exact ⟨as, h4, h5, (tyA_len n f.type as (hall f hf') h5).1⟩)
      exact ⟨as, by simpa using h1, by simp only [TyA, hu]; exact h2⟩
    · cases hp
theorem open_arg {r : Reach} {b0 : Nat} {t : TypeId} {v : Value} {d : DataW H} {ps : List MemPlace} (n : Nat) (hp : plainTyB P n t = true) (hval : Value.okWide P w r b0 t v) (hd : DataW.Trod enc P w base sp held t v d ps) :
    ∃ as, TyA P n t as ∧ Rp w (fun b _ => b < w.heap.size) (mkE P t as) v := by
  obtain ⟨fuel, hf⟩ := hd
  obtain ⟨as, h1, h2⟩ := open_cells n fuel t _ _ hp hf
  refine ⟨as, h2, ?_⟩
  obtain ⟨hl, he⟩ := tyA_len n t as hp h2
  cases n with
  | zero => simp [plainTyB] at hp
  | succ n =>
  simp only [plainTyB] at hp
  have flat : aggT P t = some false → v.cells = #[v] → P.cellsOf t = 1 → Rp w (fun b _ => b < w.heap.size) (mkE P t as) v := by
    intro hag hv h1'
    rw [h1'] at hl
    match as, hl with
    | [a], _ =>
      simp only [mkE, hag, List.headD_cons]
      exact h1.2.2 0 a v rfl (by rw [hv]; rfl)
  split at hp
  · rename_i hu
    simp only [Bool.and_eq_true, decide_eq_true_eq] at hp
    obtain ⟨b, rfl⟩ : ∃ b, v = .bool b := by
      simp only [Value.okWide, hu, Cell.okWide] at hval
      cases v <;> simp_all [Cell.ok]
    exact flat hp.2 rfl hp.1
  · rename_i k hu
    simp only [Bool.and_eq_true, decide_eq_true_eq] at hp
    obtain ⟨b, rfl⟩ := WideShapes.okWide_int hu hval
    exact flat hp.2 rfl hp.1
  · rename_i hu
    simp only [Bool.and_eq_true, decide_eq_true_eq] at hp
    obtain ⟨b, rfl⟩ : ∃ b, v = .string b := by
      simp only [Value.okWide, hu, Cell.okWide] at hval
      cases v <;> simp_all [Cell.ok]
    exact flat hp.2 rfl hp.1
  · rename_i e hu
    simp only [Bool.and_eq_true, decide_eq_true_eq] at hp
    obtain ⟨a, len, cap, rfl⟩ := WideShapes.okWide_slice hu hval
    exact flat hp.1.1.2 rfl hp.1.1.1
  · rename_i fs hu
    simp only [Bool.and_eq_true, decide_eq_true_eq] at hp
    obtain ⟨cs, rfl, _, _⟩ : ∃ cs, v = .agg cs ∧ cs.size = P.cellsOf t ∧ Row.okWide P w r b0 t cs := by
      simp only [Value.okWide, hu] at hval
      exact hval
    simp only [mkE, hp.1.1.1]
    have := Rp.agg (w := w) (ok := fun b _ => b < w.heap.size) as cs.toList h1.1.symm (fun i v hv => h1.2.1 v (List.mem_of_getElem? hv)) (fun i a v ha hv => h1.2.2 i a v ha hv)
    simpa using this
  · cases hp
end
end Go.Abs
end
