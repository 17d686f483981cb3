/- Operations that make or write blocks. No condition. -/
import Derived.Test.YtlkfjkimnkhelaaDoorAbsE
set_option linter.unusedVariables false
set_option linter.unusedSimpArgs false
namespace Go.Abs

/-- What an operation that turns one block comes to. -/
def EffOK (P : Program) (w0 : World) (X : Nat → Prop) (s : Sem Value) (L : Nat → Option Blk) (ok : Nat → Nat → Prop) (φ : Nat → Option Nat) (w : World) (v' : AV) (id : Nat) (blk : Blk) : Prop :=
  ∃ v w' φ', s.run P w = .ok v w' ∧ Ext w0 X L ok φ w (updL L id blk) ok φ' w' ∧ R w' ok (updL L id blk) φ' v' v

def one1 : AV → Bool := fun x => x.one || (match x with | .any => true | _ => false)
theorem one1_cells {x : AV} (h : one1 x = true) : x.cells = [x] := by cases x <;> simp_all [one1, AV.one, AV.cells]

theorem RC.re1 {w ok L φ cs vs} (h : RC w ok L φ cs vs) (h1 : ∀ x ∈ cs, x.cells = [x]) : RE w ok L φ 1 cs vs := by
  obtain ⟨l, o, r⟩ := h
  refine ⟨by simp [l], fun i x hx => by rw [h1 x (List.mem_of_getElem? hx)]; rfl, fun i x j y hx hy => ?_⟩
  rw [h1 x (List.mem_of_getElem? hx)] at hy
  cases j with
  | succ j => simp at hy
  | zero =>
    simp at hy; subst hy
    have hi : i < vs.length := by rw [l]; exact (List.getElem?_eq_some_iff.1 hx).1
    refine ⟨vs[i], by simp, o i _ (List.getElem?_eq_getElem hi), r i _ _ hx (List.getElem?_eq_getElem hi)⟩

/-! ### store -/
def arrT (P : Program) (t : TypeId) : Bool := match P.underlying t with | some (.array ..) => true | _ => false
def efStore (P : Program) (L : Nat → Option Blk) (t : TypeId) (x v : AV) : Option (AV × Nat × Blk × Prop) :=
  match x with
  | .ptr id i j hw => match L id with
    | some (.cells sz false d c) => match szT P t with
      | some n => match arrT P t with
        | true => some (.any, id, .cells sz false d v.cells, hw = c.length ∧ i = 0 ∧ j = 0 ∧ sz = 1 ∧ n = c.length ∧ v.flat = true ∧ v.cells.length = n ∧ v.cells.all one1 = true)
        | false => some (.any, id, .cells sz false d (c.set i (if n = sz then v else .agg (setAt (c.getD i d).cells j v.cells))),
          hw = c.length ∧ i < c.length ∧ j + n ≤ sz ∧ v.flat = true ∧ v.cells.length = n)
      | none => none
    | _ => none
  | _ => none

theorem efStore_ok {P t x y v' id blk p w ok L φ vx vy w0 X} (h : efStore P L t x y = some (v', id, blk, p)) (hp : p) (hh : HeapOK w ok L φ) (hx : R w ok L φ x vx) (hy : R w ok L φ y vy) :
    ∃ w' φ', (Instr.storeAt t vx vy).run P w = .ok () w' ∧ Ext w0 X L ok φ w (updL L id blk) ok φ' w' := by
  unfold efStore at h
  split at h
  · rename_i id' i j hw
    split at h
    · rename_i sz d c hL
      split at h
      case h_2 => simp at h
      rename_i n hsz
      cases harr : arrT P t <;> rw [harr] at h <;> simp only [Option.some.injEq, reduceCtorEq, Prod.mk.injEq] at h
      case true =>
        obtain ⟨rfl, rfl, rfl, rfl⟩ := h
        obtain ⟨hw1, rfl, rfl, rfl, hnc, hfl, hvn, hall⟩ := hp
        obtain ⟨pa, sz', ro', d', c', rfl, hL', hle, hr⟩ := hx.ptrInv
        rw [hL] at hL'; cases hL'
        obtain ⟨b, hb, rfl⟩ := hr hw1
        rcases hh.live hb with ⟨sz1, ro1, d1, c1, vs, rest, e, lo', hi', h1, h2, h3, h4⟩ | ⟨blk1, o1, h1, _, ho1⟩
        · rw [hL] at h1; cases h1
          have hrc := hy.rcf hfl
          have hvl : vy.cells.toList.length = n := by rw [hrc.1, hvn]
          have hvs : vy.cells.size = n := by rw [← hvl]; simp
          have hvlen : vs.length = n := by rw [h4.1]; omega
          have hone : ∀ u ∈ vy.cells.toList, u.oneCell' = true := fun u hu => hy.flat hfl u (by simpa using hu)
          obtain ⟨w', h5, h6, h7⟩ := run_storeCells_blk (P := P) b 0 e lo' hi' vy.cells.toList 0 (vs ++ rest) w h2 h3 (by simp only [List.length_append, hvl]; omega) hone
          simp only [Nat.add_zero, hvl, Nat.zero_add, List.take_zero, List.nil_append] at h7
          rw [List.drop_append_of_le_length (by omega), List.drop_of_length_le (by omega), List.nil_append] at h7
          have hre : RE w ok L φ 1 y.cells vy.cells.toList := hrc.re1 (fun x hx => one1_cells (List.all_eq_true.1 hall x hx))
          refine ⟨w', φ, ?_, Ext.wrote hh hb h6 (.inl ⟨1, d, c, d, _, _, rest, e, lo', hi', hL, rfl, by omega, h7, fun k hk => h3 k ?_, hre, fun m hm' => ?_⟩)⟩
          · simp [Instr.storeAt, Instr.sureAddr, storeVar, hvs, run_sizeOf' hsz, h5]
          · simp only [List.length_append, hvl] at hk ⊢; omega
          · obtain ⟨cur, e', fz, h8, h9⟩ := hm'
            rw [h2] at h8; cases h8
            refine ⟨_, _, _, h7, ?_⟩
            simp only [List.size_toArray, List.length_append, hvl] at h9 ⊢; omega
        · rw [hL] at h1; cases h1; cases ho1
      obtain ⟨rfl, rfl, rfl, rfl⟩ := h
      obtain ⟨hw1, hi, hj, hfl, hvn⟩ := hp
      obtain ⟨pa, sz', ro', d', c', rfl, hL', hle, hr⟩ := hx.ptrInv
      rw [hL] at hL'; cases hL'
      obtain ⟨b, hb, rfl⟩ := hr hw1
      rcases hh.live hb with ⟨sz1, ro1, d1, c1, vs, rest, e, lo', hi', h1, h2, h3, h4⟩ | ⟨blk1, o1, h1, _, ho1⟩
      · rw [hL] at h1; cases h1
        have hrc := hy.rcf hfl
        have hvl : vy.cells.toList.length = n := by rw [hrc.1, hvn]
        have hvs : vy.cells.size = n := by rw [← hvl]; simp
        have hm := Nat.mul_le_mul_right sz (show i + 1 ≤ c.length by omega)
        rw [Nat.add_mul, Nat.one_mul] at hm
        have hvlen := h4.1
        have hone : ∀ u ∈ vy.cells.toList, u.oneCell' = true := fun u hu => hy.flat hfl u (by simpa using hu)
        obtain ⟨w', h5, h6, h7⟩ := run_storeCells_blk (P := P) b (i * sz + j) e lo' hi' vy.cells.toList 0 (vs ++ rest) w h2 h3 (by simp only [List.length_append, hvl]; omega) hone
        simp only [Nat.add_zero, hvl] at h7
        -- the new element
        have hci : c[i]? = some c[i] := List.getElem?_eq_getElem hi
        have hgd : c.getD i d = c[i] := by simp [List.getD_eq_getElem?_getD, hci]
        have hold : RC w ok L φ c[i].cells ((vs.drop (i * sz)).take sz) := by
          refine ⟨?_, fun k v hk => ?_, fun k a v ha hk => ?_⟩
          · rw [h4.2.1 i _ hci, List.length_take, List.length_drop]; omega
          · have hk' : k < sz := by
              have := (List.getElem?_eq_some_iff.1 hk).1
              rw [List.length_take] at this; omega
            rw [List.getElem?_take, if_pos hk', List.getElem?_drop] at hk
            obtain ⟨u, h8, h9, _⟩ := h4.2.2 i _ k _ hci (List.getElem?_eq_getElem (by rw [h4.2.1 i _ hci]; exact hk'))
            rw [hk] at h8; cases h8; exact h9
          · have hk' : k < sz := by
              have := (List.getElem?_eq_some_iff.1 hk).1
              rw [List.length_take] at this; omega
            rw [List.getElem?_take, if_pos hk', List.getElem?_drop] at hk
            obtain ⟨u, h8, _, h9⟩ := h4.2.2 i _ k _ hci ha
            rw [hk] at h8; cases h8; exact h9
        have hnew : ∃ us, RE w ok L φ sz [if n = sz then y else .agg (setAt (c.getD i d).cells j y.cells)] us ∧ us.length = sz ∧
            vs.take (i * sz) ++ (us ++ vs.drop (i * sz + sz)) = vs.take (i * sz + j) ++ (vy.cells.toList ++ vs.drop (i * sz + j + n)) := by
          by_cases e1 : n = sz
          · rw [if_pos e1]
            have hj0 : j = 0 := by omega
            subst hj0
            refine ⟨vy.cells.toList, ?_, by omega, by simp [e1]⟩
            have := RE.one (x := y) hrc.1 hrc.2.1 hrc.2.2
            rwa [hvn, e1] at this
          · rw [if_neg e1, hgd]
            have hs := hold.setAt hrc j
            refine ⟨((vs.drop (i * sz)).take sz).take j ++ (vy.cells.toList ++ ((vs.drop (i * sz)).take sz).drop (j + vy.cells.toList.length)), ?_, ?_, ?_⟩
            · have hlen : (AV.agg (setAt c[i].cells j y.cells)).cells.length = sz := by
                show (setAt c[i].cells j y.cells).length = sz
                unfold setAt
                simp only [List.length_append, List.length_take, List.length_drop, h4.2.1 i _ hci, hvn]; omega
              have := RE.one (x := .agg (setAt c[i].cells j y.cells)) (w := w) (ok := ok) (L := L) (φ := φ) (by simpa [AV.cells] using hs.1) hs.2.1 (by simpa [AV.cells] using hs.2.2)
              rwa [hlen] at this
            · simp only [List.length_append, List.length_take, List.length_drop, hvl]; omega
            · rw [hvl, List.take_take, Nat.min_eq_left (by omega), List.drop_take, List.drop_drop]
              have h10 : vs.take (i * sz) ++ (vs.drop (i * sz)).take j = vs.take (i * sz + j) := (List.take_add).symm
              have h11 : (vs.drop (i * sz + (j + n))).take (sz - (j + n)) ++ vs.drop (i * sz + sz) = vs.drop (i * sz + j + n) := by
                have e2 : vs.drop (i * sz + sz) = (vs.drop (i * sz + (j + n))).drop (sz - (j + n)) := by rw [List.drop_drop]; congr 1; omega
                rw [e2, Nat.add_assoc]
                exact List.take_append_drop _ _
              rw [← h10, ← h11]
              simp [List.append_assoc]
        obtain ⟨us, hre1, hul, heq⟩ := hnew
        have hre := h4.set i hi hre1
        rw [hul, heq] at hre
        have hsplit : (vs ++ rest).take (i * sz + j) ++ (vy.cells.toList ++ (vs ++ rest).drop (i * sz + j + n)) = (vs.take (i * sz + j) ++ (vy.cells.toList ++ vs.drop (i * sz + j + n))) ++ rest := by
          rw [List.take_append_of_le_length (by omega), List.drop_append_of_le_length (by omega)]
          simp [List.append_assoc]
        rw [hsplit] at h7
        refine ⟨w', φ, ?_, Ext.wrote hh hb h6 (.inl ⟨sz, d, c, d, _, _, rest, e, lo', hi', hL, rfl, by simp, h7, fun k hk => h3 k ?_, hre, fun m hm' => ?_⟩)⟩
        · simp [Instr.storeAt, Instr.sureAddr, storeVar, hvs, run_sizeOf' hsz, h5]
        · rw [← hsplit] at hk
          simp only [List.length_append, List.length_take, List.length_drop, hvl] at hk ⊢; omega
        · obtain ⟨cur, e', fz, h8, h9⟩ := hm'
          rw [h2] at h8; cases h8
          refine ⟨_, _, _, h7, ?_⟩
          rw [← hsplit]
          simp only [List.size_toArray, List.length_append, List.length_take, List.length_drop, hvl] at h9 ⊢; omega
      · rw [hL] at h1; cases h1; cases ho1
    · simp at h
  · simp at h

theorem efStore_any {P L t x y v' id blk p} (h : efStore P L t x y = some (v', id, blk, p)) : v' = .any := by
  unfold efStore at h
  split at h
  · split at h
    · split at h
      · split at h <;> simp only [Option.some.injEq, Prod.mk.injEq] at h <;> exact h.1.symm
      · simp at h
    · simp at h
  · simp at h

/-! ### new blocks -/
theorem ofVal_cells (v : Value) : (AV.ofVal v).cells = [AV.ofVal v] := by unfold AV.ofVal; split <;> rfl
theorem ofVal_flat {v : Value} (h : (AV.ofVal v).flat = true) : v.cells = #[v] ∧ v.oneCell' = true := by
  unfold AV.ofVal at h
  split at h <;> first | exact ⟨rfl, rfl⟩ | simp [AV.flat] at h

theorem zero_ok {P t z} (w : World) (ok : Nat → Nat → Prop) (L : Nat → Option Blk) (φ : Nat → Option Nat) (h : zT P t = some z) (hf : z.cells.all AV.flat = true) :
    ∃ i u, P.info? t = some i ∧ i.zero = some u ∧ z = .ofZero u ∧ R w ok L φ z u ∧ RC w ok L φ z.cells u.cells.toList := by
  obtain ⟨i, u, hi, hz, rfl⟩ := zT_spec h
  have key : RC w ok L φ (AV.ofZero u).cells u.cells.toList := by
    by_cases hu : ∃ cs, u = .agg cs
    · obtain ⟨cs, rfl⟩ := hu
      exact RC_zero (w := w) (ok := ok) (L := L) (φ := φ) cs.toList (fun z hz => List.all_eq_true.1 hf z hz)
    · have e : AV.ofZero u = AV.ofVal u := by
        unfold AV.ofZero
        split
        · exact absurd ⟨_, rfl⟩ hu
        · rfl
      rw [e, ofVal_cells] at hf ⊢
      simp only [List.all_cons, List.all_nil, Bool.and_true] at hf
      obtain ⟨h1, h2⟩ := ofVal_flat hf
      rw [h1]
      refine ⟨rfl, fun i v hv => ?_, fun i a v ha hv => ?_⟩
      · cases i with
        | zero => simp at hv; subst hv; exact h2
        | succ i => simp at hv
      · cases i with
        | zero => simp at hv ha; subst hv; subst ha; exact .pure _ _ (Rp_ofVal w ok _)
        | succ i => simp at hv
  exact ⟨i, u, hi, hz, rfl, .pure _ _ (Rp_ofZero w ok u fun i v hv => key.2.1 i v (by simpa using hv)), key⟩

theorem run_zero {P : Program} {w : World} {t : TypeId} {i : TypeInfo} {u : Value} (hi : P.info? t = some i) (hz : i.zero = some u) : (zeroValue t).run P w = .ok u w := by
  simp [zeroValue, typeInfo, hi, hz]

/-- The elements of a variable's block. -/
def boxC (P : Program) (t : TypeId) (v : AV) : Option (Nat × AV × List AV × Prop) :=
  match P.underlying t with
  | some (.array _ el) => match v, zT P el with
    | .agg cs, some d => some (1, d, cs, cs.all one1 = true)
    | _, _ => none
  | _ => match szT P t, zT P t with
    | some n, some d => some (n, d, [v], v.cells.length = n)
    | _, _ => none

def efBoxed (P : Program) (L : Nat → Option Blk) (id : Nat) (t : TypeId) (v : AV) : Option (AV × Nat × Blk × Prop) :=
  match L id with
  | none => match boxC P t v with
    | some (sz, d, c, q) => some (.ptr id 0 0 c.length, id, .cells sz false d c, v.flat = true ∧ q)
    | none => none
  | some _ => none

theorem efBoxed_ok {P L id t a v' id' blk p w0 X ok φ w v} (h : efBoxed P L id t a = some (v', id', blk, p)) (hp : p) (hh : HeapOK w ok L φ) (hw0 : w0.heap.size ≤ w.heap.size)
    (hv : R w ok L φ a v) : EffOK P w0 X (do pure (.pointer (some (← newVar t v)))) L ok φ w v' id' blk := by
  unfold efBoxed at h
  split at h
  · rename_i hL
    split at h <;> simp only [Option.some.injEq, reduceCtorEq, Prod.mk.injEq] at h
    rename_i sz d c q hc
    obtain ⟨rfl, rfl, rfl, rfl⟩ := h
    obtain ⟨hfl, hq⟩ := hp
    have hrc := hv.rcf hfl
    have hre : RE w ok L φ sz c v.cells.toList := by
      unfold boxC at hc
      split at hc
      · rename_i n el hu
        split at hc <;> simp only [Option.some.injEq, reduceCtorEq, Prod.mk.injEq] at hc
        rename_i cs d' hz
        obtain ⟨rfl, rfl, rfl, rfl⟩ := hc
        exact hrc.re1 (fun x hx => one1_cells (List.all_eq_true.1 hq x hx))
      · rename_i hu
        split at hc <;> simp only [Option.some.injEq, reduceCtorEq, Prod.mk.injEq] at hc
        obtain ⟨rfl, rfl, rfl, rfl⟩ := hc
        have := RE.one hrc.1 hrc.2.1 hrc.2.2
        rwa [hq] at this
    have hext := Ext.new (w0 := w0) (X := X) (blk := .cells sz false d c) hh hw0 hL (Grow.alloc w (.cells v.cells t))
      (.inl ⟨sz, false, d, c, v.cells.toList, [], t, 0, 0, rfl, by simp, fun k _ => by omega, hre⟩)
    refine ⟨.pointer (some ⟨w.heap.size, 0, none⟩), _, _, ?_, hext, ?_⟩
    · simp [newVar, newRow]
    · exact .ptr id 0 0 c.length _ sz false d c (by simp [updL]) (Nat.le_refl _) (fun _ => ⟨w.heap.size, by simp [updP], by simp⟩)
  · simp at h

theorem efAlloc_ok {P L id t z v' id' blk p w0 X ok φ w} (hz : zT P t = some z) (h : efBoxed P L id t z = some (v', id', blk, p)) (hp : p) (hf : z.cells.all AV.flat = true)
    (hh : HeapOK w ok L φ) (hw0 : w0.heap.size ≤ w.heap.size) : EffOK P w0 X (Instr.alloc t true (.tuple #[])) L ok φ w v' id' blk := by
  obtain ⟨i, u, hi, hzu, _, hr, _⟩ := zero_ok w ok L φ hz hf
  obtain ⟨v, w', φ', h1, h2, h3⟩ := efBoxed_ok h hp hh hw0 hr
  refine ⟨v, w', φ', ?_, h2, h3⟩
  simpa [Instr.alloc, run_zero hi hzu] using h1

/-! a literal slice -/
theorem fill_inorder (n : Nat) : ∀ (us : List Value) (k : Nat) (pre post : List Value), pre.length = k * n → (∀ u ∈ us, u.cells.size = n) → us.length * n ≤ post.length →
    Instr.fill (fun i => some (i * n, n)) (pre ++ post).toArray ((us.zipIdx k).map fun x => (x.2, x.1)) =
      some (pre ++ (us.flatMap (·.cells.toList) ++ post.drop (us.length * n))).toArray
  | [], k, pre, post, _, _, _ => by simp [Instr.fill]
  | u :: us, k, pre, post, hk, hu, hp => by
    have hn := hu u (by simp)
    have hlen : u.cells.toList.length = n := by simpa using hn
    simp only [List.length_cons, Nat.add_mul, Nat.one_mul] at hp
    simp only [List.zipIdx_cons, List.map_cons, Instr.fill]
    rw [if_neg (by simp [hn]; omega)]
    have hfold := foldl_setAt (pre ++ post) u.cells.toList (k * n) (by simp only [List.length_append, hlen]; omega)
    simp only [Array.toArray_toList] at hfold
    rw [hfold, hlen, ← hk, List.take_left, ← List.drop_drop, List.drop_left, ← List.append_assoc]
    rw [fill_inorder n us (k + 1) (pre ++ u.cells.toList) (post.drop n) (by simp only [List.length_append, hlen, Nat.add_mul]; omega) (fun x hx => hu x (by simp [hx])) (by rw [List.length_drop]; omega)]
    simp only [List.flatMap_cons, List.append_assoc, List.drop_drop, List.length_cons]
    congr 6
    rw [Nat.add_mul]; omega

theorem RE.flatMap {w ok L φ sz} : ∀ {xs : List AV} {us : List Value}, us.length = xs.length → (∀ (i : Nat) (x : AV) (u : Value), xs[i]? = some x → us[i]? = some u → R w ok L φ x u) →
    (∀ x ∈ xs, x.flat = true ∧ x.cells.length = sz) → RE w ok L φ sz xs (us.flatMap (·.cells.toList)) ∧ ∀ u ∈ us, u.cells.size = sz
  | [], [], _, _, _ => ⟨RE.nil .., by simp⟩
  | [], _ :: _, h, _, _ => by simp at h
  | _ :: _, [], h, _, _ => by simp at h
  | x :: xs, u :: us, hl, hr, hx => by
    obtain ⟨h1, h2⟩ := hx x (by simp)
    have hrc := (hr 0 x u rfl rfl).rcf h1
    obtain ⟨ih, ihs⟩ := RE.flatMap (w := w) (ok := ok) (L := L) (φ := φ) (sz := sz) (xs := xs) (us := us) (by simpa using hl) (fun i a b ha hb => hr (i + 1) a b (by simpa using ha) (by simpa using hb)) (fun y hy => hx y (by simp [hy]))
    have h3 := RE.one hrc.1 hrc.2.1 hrc.2.2
    rw [h2] at h3
    refine ⟨?_, fun y hy => ?_⟩
    · have := h3.append ih
      simpa using this
    · rcases List.mem_cons.1 hy with rfl | hy
      · have := hrc.1; simp at this; omega
      · exact ihs y hy

def efBuildSlice (P : Program) (L : Nat → Option Blk) (id : Nat) (t : TypeId) (len : Nat) (ps : List (Nat × AV)) : Option (AV × Nat × Blk × Prop) :=
  match P.underlying t, L id with
  | some (.slice el), none => match szT P el, zT P el with
    | some n, some d =>
      some (.ref id 0 len len, id, .cells n false d (ps.map (·.2)), ps.map (·.1) = List.range len ∧ len * n ≤ 16777216 ∧ len ≤ maxInt ∧ ∀ x ∈ ps, x.2.flat = true ∧ x.2.cells.length = n)
    | _, _ => none
  | _, _ => none

theorem zeroCells_len (z : Array Value) (n : Nat) : ((Array.range n).map fun x => z[x % z.size]!).toList.length = n := by simp

theorem efBuildSlice_ok {P L id t len ps v' id' blk p w0 X ok φ w} {qs : Array (Nat × Value)} (h : efBuildSlice P L id t len ps = some (v', id', blk, p)) (hp : p)
    (hh : HeapOK w ok L φ) (hw0 : w0.heap.size ≤ w.heap.size) (hl : qs.size = ps.length)
    (hq : ∀ (i : Nat) (x : Nat × AV) (y : Nat × Value), ps[i]? = some x → qs[i]? = some y → y.1 = x.1 ∧ R w ok L φ x.2 y.2) :
    EffOK P w0 X (Instr.buildSlice t len qs) L ok φ w v' id' blk := by
  unfold efBuildSlice at h
  split at h
  · rename_i el hu hL
    split at h <;> simp only [Option.some.injEq, reduceCtorEq, Prod.mk.injEq] at h
    rename_i n d hsz hz
    obtain ⟨rfl, rfl, rfl, rfl⟩ := h
    obtain ⟨hidx, hbig, hmx, hx⟩ := hp
    obtain ⟨i, u, hi, hzu, _⟩ := zT_spec hz
    have hlen : ps.length = len := by have := congrArg List.length hidx; simpa using this
    let us := qs.toList.map (·.2)
    have hus : us.length = ps.length := by simp [us, hl]
    obtain ⟨hre, hsize⟩ := RE.flatMap (w := w) (ok := ok) (L := L) (φ := φ) (sz := n) (xs := ps.map (·.2)) (us := us) (by simp [hus]) (fun i x y hx hy => by
        simp only [List.getElem?_map, Option.map_eq_some_iff, us] at hx hy
        obtain ⟨a, ha, rfl⟩ := hx
        obtain ⟨b, hb, rfl⟩ := hy
        exact (hq i a b ha (by simpa using hb)).2) (fun x hx' => by
        obtain ⟨a, ha, rfl⟩ := List.mem_map.1 hx'
        exact hx a ha)
    have hqs : qs.toList = (us.zipIdx 0).map fun x => (x.2, x.1) := by
      apply List.ext_getElem?
      intro k
      simp only [List.getElem?_map, List.getElem?_zipIdx, us]
      cases hk : qs.toList[k]? with
      | none => simp
      | some y =>
        have hlt : k < ps.length := by rw [← hl]; have := (List.getElem?_eq_some_iff.1 hk).1; simpa using this
        have h1 := (hq k ps[k] y (List.getElem?_eq_getElem hlt) (by simpa using hk)).1
        have h2 : (ps.map (·.1))[k]? = some k := by rw [hidx]; exact List.getElem?_range (by omega)
        rw [List.getElem?_map, List.getElem?_eq_getElem hlt] at h2
        simp at h2
        simp
        rw [← h2, ← h1]
    let zs : List Value := List.replicate (len * n) (.bool false)
    have hfill : ∀ (zs : Array Value), zs.size = len * n → Instr.fill (fun i => some (i * n, n)) zs qs.toList = some (us.flatMap (·.cells.toList)).toArray := by
      intro zs hzs
      have := fill_inorder n us 0 [] zs.toList (by simp) hsize (by simp only [hus, hlen, Array.length_toList, hzs]; exact Nat.le_refl _)
      simp only [List.nil_append, Array.toArray_toList] at this
      rw [hqs, this]
      rw [List.drop_of_length_le (by simp only [hus, hlen, Array.length_toList, hzs]; exact Nat.le_refl _)]
      simp
    have hext := Ext.new (w0 := w0) (X := X) (blk := .cells n false d (ps.map (·.2))) hh hw0 hL (Grow.alloc w (.cells (us.flatMap (·.cells.toList)).toArray el))
      (.inl ⟨n, false, d, ps.map (·.2), us.flatMap (·.cells.toList), [], el, 0, 0, rfl, by simp, fun k _ => by omega, hre⟩)
    have hbl := hre.1
    simp only [List.length_map, hlen] at hbl
    refine ⟨.slice (some ⟨w.heap.size, 0, none⟩) len len, _, _, ?_, hext, ?_⟩
    · have hb' : ¬ (16777216 < len * n) := by omega
      by_cases hzr : len * n = 0
      · simp only [Instr.buildSlice, Sem.run_bind, run_underlying hu, Result.andThen_ok, run_sizeOf' hsz, hzr]
        simp [hfill (Array.map (fun _ => default) (Array.range 0)) (by simp [hzr]), newRow]
      · simp only [Instr.buildSlice, Sem.run_bind, run_underlying hu, Result.andThen_ok, run_sizeOf' hsz]
        simp [hb', hzr, run_zero hi hzu, hfill ((Array.range (len * n)).map fun x => u.cells[x % u.cells.size]!) (by simp), newRow]
    · refine .ref id 0 len len _ _ _ n false d (ps.map (·.2)) (by simp [updL]) (by simp [hlen]) (fun _ => ⟨by omega, .inr ⟨w.heap.size, len, _, by simp [updP], rfl, Nat.le_refl _, ?_, ?_⟩⟩)
      · simpa [maxLen, maxInt] using hmx
      · exact .inr ⟨by simp, _, _, _, heap_alloc_new w _, by simp [hbl]⟩
  · simp at h
end Go.Abs
