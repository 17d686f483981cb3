/- More operations that read no memory. No condition. -/
import Derived.Test.YtlkfjkimnkhelaaDoorAbsB
import Derived.Laws.StructEq
set_option linter.unusedVariables false
set_option linter.unusedSimpArgs false
namespace Go.Abs

/-! ### index -/
def evIndex (P : Program) (t : TypeId) (x i : AV) : Option (AV × Prop) :=
  match i with
  | .int _ n =>
    match P.underlying t with
    | some .string => match x with
      | .str s => some (.int .u8 (s.getD n.toNat 0).toNat, 0 ≤ n ∧ n < s.length)
      | _ => none
    | some (.array len el) =>
      match x, szT P el, zT P el, aggT P el with
      | .agg cs, some sz, some d, some false => if sz = 1 then some (cs.getD n.toNat d, 0 ≤ n ∧ n < len ∧ cs.length = len) else none
      | .agg cs, some sz, some _, some true => some (.agg ((cs.drop (n.toNat * sz)).take sz), 0 ≤ n ∧ n < len ∧ cs.length = len * sz)
      | _, _, _, _ => none
    | _ => none
  | _ => none

theorem R.aggInv {w ok L φ cs v} (h : R w ok L φ (.agg cs) v) : ∃ vs : List Value, v = .agg vs.toArray ∧ vs.length = cs.length ∧
    (∀ (i : Nat) (v : Value), vs[i]? = some v → v.oneCell' = true) ∧ (∀ (i : Nat) (a : AV) (v : Value), cs[i]? = some a → vs[i]? = some v → R w ok L φ a v) := by
  cases h with
  | pure _ _ h => cases h with | agg _ vs hl h1 h2 => exact ⟨vs, rfl, hl, h1, fun i a v ha hv => .pure _ _ (h2 i a v ha hv)⟩
  | agg _ vs hl h1 h2 => exact ⟨vs, rfl, hl, h1, h2⟩

theorem R.aggSub {w ok L φ} {cs : List AV} {vs : List Value} (hl : vs.length = cs.length) (h1 : ∀ (i : Nat) (v : Value), vs[i]? = some v → v.oneCell' = true)
    (h2 : ∀ (i : Nat) (a : AV) (v : Value), cs[i]? = some a → vs[i]? = some v → R w ok L φ a v) (o n : Nat) :
    R w ok L φ (.agg ((cs.drop o).take n)) (.agg ((vs.drop o).take n).toArray) := by
  refine .agg _ _ (by simp [hl]) (fun i v hv => ?_) (fun i a v ha hv => ?_)
  · rw [List.getElem?_take] at hv
    split at hv
    · rw [List.getElem?_drop] at hv; exact h1 _ _ hv
    · simp at hv
  · rw [List.getElem?_take] at ha hv
    split at ha
    · rw [List.getElem?_drop] at ha hv
      rename_i hlt
      simp only [hlt, if_true] at hv
      exact h2 _ _ _ ha hv
    · simp at ha

theorem extract_toList' (vs : List Value) (o n : Nat) : (vs.toArray.extract o (o + n)) = ((vs.drop o).take n).toArray := by
  apply Array.ext'
  simp [List.extract_eq_take_drop]

theorem evIndex_ok {P t x i v' p w ok L φ vx vi} (h : evIndex P t x i = some (v', p)) (hp : p) (hx : R w ok L φ x vx) (hi : R w ok L φ i vi) :
    ∃ v, (Instr.index t vx vi).run P w = .ok v w ∧ R w ok L φ v' v := by
  unfold evIndex at h
  split at h
  · rename_i k n
    obtain rfl : vi = .int k n := by cases hi with | pure _ _ hi => cases hi; rfl
    split at h
    · rename_i hu
      split at h <;> simp only [Option.some.injEq, reduceCtorEq, Prod.mk.injEq] at h
      rename_i s
      obtain ⟨rfl, rfl⟩ := h
      obtain rfl : vx = .string ⟨s.toArray⟩ := by cases hx with | pure _ _ hx => cases hx; rfl
      obtain ⟨h0, h1⟩ := hp
      obtain ⟨m, rfl⟩ := Int.eq_ofNat_of_zero_le h0
      have hm : m < s.length := by omega
      refine ⟨.int .u8 (s.getD m 0).toNat, ?_, .pure _ _ (.int _ _)⟩
      have hsz : m < (ByteArray.mk s.toArray).size := by simpa [ByteArray.size] using hm
      have hg : (ByteArray.mk s.toArray)[m]? = some (s.getD m 0) := by
        rw [ByteArray.getElem?_lt' _ _ hsz]
        simp [ByteArray.getElem_eq_getElem_data, List.getD_eq_getElem?_getD, List.getElem?_eq_getElem hm]
      simp only [Instr.index, Sem.run_bind, asIntOf, Sem.run_pure, Result.andThen_ok, run_underlying hu]
      simp [hg]
    · rename_i len el hu
      split at h
      · rename_i cs sz d hsz hz hag
        split at h <;> simp only [Option.some.injEq, reduceCtorEq, Prod.mk.injEq] at h
        rename_i hs1
        subst hs1
        obtain ⟨rfl, rfl⟩ := h
        obtain ⟨h0, h1, h2⟩ := hp
        obtain ⟨vs, rfl, hl, ho, hr⟩ := hx.aggInv
        obtain ⟨m, rfl⟩ := Int.eq_ofNat_of_zero_le h0
        have hm : m < vs.length := by omega
        have hm' : m < cs.length := by omega
        refine ⟨vs[m], ?_, ?_⟩
        · have hlt : m < len := by omega
          simp [Instr.index, asIntOf, run_underlying hu, hlt, run_sizeOf' hsz, part, run_isAgg' hag, List.getElem?_eq_getElem hm]
        · have : cs.getD m d = cs[m] := by simp [List.getD_eq_getElem?_getD, List.getElem?_eq_getElem hm']
          simp only [Int.toNat_natCast]
          rw [this]
          exact hr m _ _ (List.getElem?_eq_getElem hm') (List.getElem?_eq_getElem hm)
      · rename_i cs sz d hsz hz hag
        simp only [Option.some.injEq, Prod.mk.injEq] at h
        obtain ⟨rfl, rfl⟩ := h
        obtain ⟨h0, h1, h2⟩ := hp
        obtain ⟨vs, rfl, hl, ho, hr⟩ := hx.aggInv
        obtain ⟨m, rfl⟩ := Int.eq_ofNat_of_zero_le h0
        refine ⟨.agg ((vs.drop (m * sz)).take sz).toArray, ?_, by simpa using R.aggSub hl ho hr (m * sz) sz⟩
        have hlt : m < len := by omega
        simp only [Instr.index, Sem.run_bind, asIntOf, Sem.run_pure, Result.andThen_ok, run_underlying hu]
        simp [hlt, run_sizeOf' hsz, part, run_isAgg' hag, extract_toList']
      · simp at h
    · simp at h
  · simp at h

/-! ### field, fieldAddr -/
def evField (P : Program) (t : TypeId) (x : AV) (f : Nat) : Option (AV × Prop) :=
  match P.underlying t, x with
  | some (.struct fields), .agg cs =>
    match fields[f]? with
    | some fd =>
      match aggT P fd.type, szT P fd.type with
      | some false, some _ => some (cs.getD fd.offset .any, fd.offset < cs.length)
      | some true, some n => some (.agg ((cs.drop fd.offset).take n), True)
      | _, _ => none
    | none => none
  | _, _ => none

theorem evField_ok {P t x f v' p w ok L φ vx} (h : evField P t x f = some (v', p)) (hp : p) (hx : R w ok L φ x vx) :
    ∃ v, (Instr.field t vx f).run P w = .ok v w ∧ R w ok L φ v' v := by
  unfold evField at h
  split at h
  · rename_i fields cs hu
    split at h
    · rename_i fd hf
      obtain ⟨vs, rfl, hl, ho, hr⟩ := hx.aggInv
      split at h <;> simp only [Option.some.injEq, reduceCtorEq, Prod.mk.injEq] at h
      · rename_i m hag hsz
        obtain ⟨rfl, rfl⟩ := h
        have hm : fd.offset < vs.length := by omega
        refine ⟨vs[fd.offset], ?_, ?_⟩
        · simp [Instr.field, run_underlying hu, hf, asAgg, part, run_isAgg' hag, List.getElem?_eq_getElem hm]
        · have : cs.getD fd.offset .any = cs[fd.offset] := by simp [List.getD_eq_getElem?_getD, List.getElem?_eq_getElem hp]
          rw [this]
          exact hr _ _ _ (List.getElem?_eq_getElem hp) (List.getElem?_eq_getElem hm)
      · rename_i n hag hsz
        obtain ⟨rfl, rfl⟩ := h
        refine ⟨.agg ((vs.drop fd.offset).take n).toArray, ?_, R.aggSub hl ho hr _ _⟩
        simp [Instr.field, run_underlying hu, hf, asAgg, part, run_isAgg' hag, run_sizeOf' hsz, extract_toList']
    · simp at h
  · simp at h

def evFieldAddr (P : Program) (t : TypeId) (x : AV) (f : Nat) : Option (AV × Prop) :=
  match P.underlying t with
  | some (.struct fields) =>
    match fields[f]? with
    | some fd =>
      match szT P fd.type with
      | some (_ + 1) =>
        match x with
        | .radr cs => some (.radr (cs.drop fd.offset), True)
        | .ptr id i j hw => some (.ptr id i (j + fd.offset) hw, True)
        | _ => none
      | _ => none
    | none => none
  | _ => none

theorem addr_add_plain (b o n : Nat) : (⟨b, o, none⟩ : Addr).add n = ⟨b, o + n, none⟩ := by
  unfold Addr.add; split <;> simp_all

theorem evFieldAddr_ok {P t x f v' p w ok L φ vx} (h : evFieldAddr P t x f = some (v', p)) (hp : p) (hx : R w ok L φ x vx) :
    ∃ v, (Instr.fieldAt t vx f).run P w = .ok v w ∧ R w ok L φ v' v := by
  unfold evFieldAddr at h
  split at h
  · rename_i fields hu
    split at h
    · rename_i fd hf
      split at h
      · rename_i n hsz
        split at h <;> simp only [Option.some.injEq, reduceCtorEq, Prod.mk.injEq] at h
        · rename_i cs
          obtain ⟨rfl, rfl⟩ := h
          cases hx with
          | pure _ _ hx =>
            cases hx with
            | radr _ b off cv h1 h2 =>
              refine ⟨.pointer (some ⟨b, off + fd.offset, none⟩), ?_, .pure _ _ (.radr _ b (off + fd.offset) (fun j => cv (fd.offset + j)) (fun j y hj => ?_) (fun j y hj => ?_))⟩
              · simp [Instr.fieldAt, run_underlying hu, hf, Instr.sureAddr, fieldPlace, run_sizeOf' hsz, addr_add_plain]
              · rw [List.getElem?_drop] at hj
                have := h1 _ _ hj
                rw [Nat.add_assoc]; exact this
              · rw [List.getElem?_drop] at hj; exact h2 _ _ hj
        · rename_i id i j hw
          obtain ⟨rfl, rfl⟩ := h
          cases hx with
          | pure _ _ hx => cases hx
          | ptr _ _ _ _ pa sz ro d c hL hle hh =>
            by_cases he : hw = c.length
            · obtain ⟨b, hb, rfl⟩ := hh he
              refine ⟨.pointer (some ⟨b, i * sz + j + fd.offset, none⟩), ?_, ?_⟩
              · simp [Instr.fieldAt, run_underlying hu, hf, Instr.sureAddr, fieldPlace, run_sizeOf' hsz, addr_add_plain]
              · exact .ptr id i (j + fd.offset) hw _ sz ro d c hL hle (fun _ => ⟨b, hb, by rw [Nat.add_assoc]⟩)
            · refine ⟨.pointer (some (pa.add fd.offset)), ?_, .ptr id i (j + fd.offset) hw _ sz ro d c hL hle (fun e => absurd e he)⟩
              simp [Instr.fieldAt, run_underlying hu, hf, Instr.sureAddr, fieldPlace, run_sizeOf' hsz]
      · simp at h
    · simp at h
  · simp at h

/-! ### lists: an element's address, a part, the length -/
theorem Rp.listInv {w ok sz l v} (h : Rp w ok (.list sz l) v) : ∃ a cap, v = .slice a l.length cap ∧ l.length ≤ cap ∧ cap ≤ maxLen ∧
    (l = [] ∨ ∃ b off, ∃ cv : Nat → Nat → Value, a = some ⟨b, off, none⟩ ∧
      (∀ (i : Nat) (x : AV), l[i]? = some x → x.cells.length = sz) ∧
      (∀ (i : Nat) (x : AV) (j : Nat) (y : AV), l[i]? = some x → x.cells[j]? = some y →
        ok b (off + i * sz + j) ∧ w.cell? ⟨b, off + i * sz + j, none⟩ = some (cv i j) ∧ (cv i j).oneCell' = true) ∧
      (∀ (i : Nat) (x : AV) (j : Nat) (y : AV), l[i]? = some x → x.cells[j]? = some y → Rp w ok y (cv i j))) := by
  cases h with
  | list0 _ a cap hm => exact ⟨a, cap, rfl, Nat.zero_le _, hm, .inl rfl⟩
  | list _ _ b off cap cv hcap hm hsz h1 h2 => exact ⟨_, cap, rfl, hcap, hm, .inr ⟨b, off, cv, rfl, hsz, h1, h2⟩⟩

theorem R.listInv {w ok L φ sz l v} (h : R w ok L φ (.list sz l) v) : Rp w ok (.list sz l) v := by
  cases h with | pure _ _ h => exact h

def evIndexAddr (P : Program) (t : TypeId) (x i : AV) : Option (AV × Prop) :=
  match P.underlying t, x, i with
  | some (.slice el), .list sz l, .int _ n =>
    match zT P el with
    | some d => some (.radr (l.getD n.toNat d).cells, 0 ≤ n ∧ n < l.length ∧ szT P el = some sz)
    | none => none
  | _, _, _ => none

theorem evIndexAddr_ok {P t x i v' p w ok L φ vx vi} (h : evIndexAddr P t x i = some (v', p)) (hp : p) (hx : R w ok L φ x vx) (hi : R w ok L φ i vi) :
    ∃ v, (Instr.indexAt t vx vi).run P w = .ok v w ∧ R w ok L φ v' v := by
  unfold evIndexAddr at h
  split at h
  · rename_i el sz l k n hu
    obtain rfl : vi = .int k n := by cases hi with | pure _ _ hi => cases hi; rfl
    split at h <;> simp only [Option.some.injEq, reduceCtorEq, Prod.mk.injEq] at h
    rename_i d hd
    obtain ⟨rfl, rfl⟩ := h
    obtain ⟨h0, h1, hsz⟩ := hp
    obtain ⟨m, rfl⟩ := Int.eq_ofNat_of_zero_le h0
    have hm : m < l.length := by omega
    obtain ⟨a, cap, rfl, hcap, hmx, hh⟩ := hx.listInv.listInv
    rcases hh with rfl | ⟨b, off, cv, rfl, hs, hc1, hc2⟩
    · simp at hm
    · have hg : l[m]? = some l[m] := List.getElem?_eq_getElem hm
      have hgd : l.getD m d = l[m] := by simp [List.getD_eq_getElem?_getD, hg]
      refine ⟨.pointer (some ⟨b, off + m * sz, none⟩), ?_, .pure _ _ ?_⟩
      · simp [Instr.indexAt, asIntOf, run_underlying hu, hm, run_sizeOf' hsz, addr_add_plain]
      · simp only [Int.toNat_natCast]
        rw [hgd]
        exact .radr _ b (off + m * sz) (cv m) (fun j y hj => hc1 m _ j y hg hj) (fun j y hj => hc2 m _ j y hg hj)
  · simp at h

def boundA (d : Int) : Option AV → Option Int
  | none => some d
  | some (.int _ n) => some n
  | some _ => none

def evSlice (P : Program) (t : TypeId) (x : AV) (lo hi mx : Option AV) : Option (AV × Prop) :=
  match x with
  | .str s =>
    match P.underlying t, mx with
    | some .string, none =>
      match lo, hi with
      | none, none => some (.str s, True)
      | some (.int _ l), none => some (.str (s.drop l.toNat), 0 ≤ l ∧ l ≤ s.length)
      | none, some (.int _ h) => some (.str (s.take h.toNat), 0 ≤ h ∧ h ≤ s.length)
      | some (.int _ l), some (.int _ h) => some (.str ((s.take h.toNat).drop l.toNat), 0 ≤ l ∧ l ≤ h ∧ h ≤ s.length)
      | _, _ => none
    | _, _ => none
  | .list sz xs =>
    match P.underlying t with
    | some (.slice el) =>
      match lo, hi, mx with
      | none, none, none => some (.list sz xs, szT P el = some sz)
      | some (.int _ l), none, none => some (.list sz (xs.drop l.toNat), szT P el = some sz ∧ 0 ≤ l ∧ l ≤ xs.length)
      | none, some (.int _ h), none => some (.list sz (xs.take h.toNat), szT P el = some sz ∧ 0 ≤ h ∧ h ≤ xs.length)
      | some (.int _ l), some (.int _ h), none => some (.list sz ((xs.take h.toNat).drop l.toNat), szT P el = some sz ∧ 0 ≤ l ∧ l ≤ h ∧ h ≤ xs.length)
      | none, some (.int _ h), some (.int _ m) => some (bif decide (m = 0) then .nil0 else .list sz (xs.take h.toNat), szT P el = some sz ∧ 0 ≤ h ∧ h ≤ m ∧ m ≤ xs.length)
      | _, _, _ => none
    | _ => none
  | .ptr id i j hw =>
    match P.underlying t with
    | some (.array n el) =>
      match lo, hi, mx with
      | none, none, none => some (.ref id 0 n hw, i = 0 ∧ j = 0 ∧ (szT P el).isSome = true ∧ hw = n ∧ n ≤ maxInt)
      | _, _, _ => none
    | _ => none
  | _ => none

theorem Rp.sub {w ok sz l a n cap} (h : Rp w ok (.list sz l) (.slice a n cap)) (lo hi m : Nat) (h1 : lo ≤ hi) (h2 : hi ≤ l.length) (h3 : hi ≤ m) (h4 : m ≤ cap) :
    Rp w ok (.list sz ((l.take hi).drop lo)) (.slice (if m = lo then a else a.map (·.add (lo * sz))) (hi - lo) (m - lo)) := by
  obtain ⟨a', cap', hv, hcap, hmx, hh⟩ := h.listInv
  cases hv
  have hlen : ((l.take hi).drop lo).length = hi - lo := by simp; omega
  by_cases he : lo = hi
  · subst he
    have : (l.take lo).drop lo = [] := List.eq_nil_of_length_eq_zero (by rw [hlen]; omega)
    rw [this]
    simp only [Nat.sub_self]
    exact .list0 sz _ _ (by omega)
  · rcases hh with rfl | ⟨b, off, cv, rfl, hs, hc1, hc2⟩
    · simp at h2; omega
    · rw [if_neg (by omega)]
      simp only [Option.map_some, addr_add_plain]
      have hget : ∀ (i : Nat) (x : AV), ((l.take hi).drop lo)[i]? = some x → l[lo + i]? = some x := by
        intro i x hx
        rw [List.getElem?_drop, List.getElem?_take] at hx
        split at hx
        · exact hx
        · simp at hx
      have key := Rp.list (w := w) (ok := ok) sz ((l.take hi).drop lo) b (off + lo * sz) (m - lo) (fun i j => cv (lo + i) j)
        (by rw [hlen]; omega) (by omega) (fun i x hx => hs _ _ (hget i x hx))
        (fun i x j y hx hy => by
          have := hc1 _ _ j y (hget i x hx) hy
          rw [show off + lo * sz + i * sz + j = off + (lo + i) * sz + j by rw [Nat.add_mul]; omega]
          exact this)
        (fun i x j y hx hy => hc2 _ _ j y (hget i x hx) hy)
      rw [hlen] at key
      exact key


theorem sliced_none {α : Type} (s : List α) : (s.take s.length).drop 0 = s := by simp

theorem evSlice_ok {P t x lo hi mx v' p w ok L φ vx vlo vhi vmx} (hhp : HeapOK w ok L φ) (h : evSlice P t x lo hi mx = some (v', p)) (hp : p) (hx : R w ok L φ x vx)
    (hlo : ∀ k n, lo = some (.int k n) → vlo = some (.int k n)) (hlo' : lo = none → vlo = none)
    (hhi : ∀ k n, hi = some (.int k n) → vhi = some (.int k n)) (hhi' : hi = none → vhi = none)
    (hmx : ∀ k n, mx = some (.int k n) → vmx = some (.int k n)) (hmx' : mx = none → vmx = none) :
    ∃ v, (Instr.sliceAt t vx vlo vhi vmx).run P w = .ok v w ∧ R w ok L φ v' v := by
  unfold evSlice at h
  split at h
  · rename_i s
    obtain rfl : vx = .string ⟨s.toArray⟩ := by cases hx with | pure _ _ hx => cases hx; rfl
    have hsz : (ByteArray.mk s.toArray).size = s.length := by simp [ByteArray.size]
    have hex : ∀ a b, (ByteArray.mk s.toArray).extract a b = ⟨((s.take b).drop a).toArray⟩ := by
      intro a b
      apply ByteArray.ext
      simp [ByteArray.data_extract, List.extract_eq_take_drop, List.drop_take]
    split at h
    · rename_i hu
      obtain rfl := hmx' rfl
      split at h <;> simp only [Option.some.injEq, reduceCtorEq, Prod.mk.injEq] at h
      · obtain ⟨rfl, rfl⟩ := h
        obtain rfl := hlo' rfl; obtain rfl := hhi' rfl
        refine ⟨.string ⟨s.toArray⟩, ?_, .pure _ _ (.str _)⟩
        simp [Instr.sliceAt, Instr.slice, run_underlying hu, Instr.sliceBounds, hex, hsz]
      · rename_i k l
        obtain ⟨rfl, rfl⟩ := h
        obtain rfl := hlo _ _ rfl; obtain rfl := hhi' rfl
        obtain ⟨h0, h1⟩ := hp
        refine ⟨.string ⟨(s.drop l.toNat).toArray⟩, ?_, .pure _ _ (.str _)⟩
        simp [Instr.sliceAt, Instr.slice, run_underlying hu, Instr.sliceBounds, hex, hsz, run_sliceBound _ _ _ _ _ h0 h1]
      · rename_i k hh
        obtain ⟨rfl, rfl⟩ := h
        obtain rfl := hlo' rfl; obtain rfl := hhi _ _ rfl
        obtain ⟨h0, h1⟩ := hp
        refine ⟨.string ⟨(s.take hh.toNat).toArray⟩, ?_, .pure _ _ (.str _)⟩
        simp [Instr.sliceAt, Instr.slice, run_underlying hu, Instr.sliceBounds, hex, hsz, run_sliceBound _ _ _ _ _ h0 h1]
      · rename_i k l k' hh
        obtain ⟨rfl, rfl⟩ := h
        obtain rfl := hlo _ _ rfl; obtain rfl := hhi _ _ rfl
        obtain ⟨h0, h1, h2⟩ := hp
        have h3 : l ≤ (hh.toNat : Nat) := by omega
        have h4 : (0 : Int) ≤ hh := by omega
        refine ⟨.string ⟨((s.take hh.toNat).drop l.toNat).toArray⟩, ?_, .pure _ _ (.str _)⟩
        simp [Instr.sliceAt, Instr.slice, run_underlying hu, Instr.sliceBounds, hex, hsz, run_sliceBound _ _ _ _ _ h4 h2, run_sliceBound _ _ _ _ _ h0 h3]
    · simp at h
  · rename_i sz xs
    split at h
    · rename_i el hu
      obtain ⟨a, cap, rfl, hcap, hmxl, hh⟩ := hx.listInv.listInv
      have sub := fun lo hi m h1 h2 h3 h4 => Rp.sub (lo := lo) (hi := hi) (m := m) hx.listInv h1 h2 h3 h4
      split at h <;> simp only [Option.some.injEq, reduceCtorEq, Prod.mk.injEq] at h
      · obtain ⟨rfl, hsz⟩ := h
        subst hsz
        obtain rfl := hlo' rfl; obtain rfl := hhi' rfl; obtain rfl := hmx' rfl
        refine ⟨_, ?_, .pure _ _ (by simpa using sub 0 xs.length cap (Nat.zero_le _) (Nat.le_refl _) hcap (Nat.le_refl _))⟩
        simp [Instr.sliceAt, Instr.slice, run_underlying hu, Instr.sliceBounds, run_sizeOf' hp]
      · rename_i k l
        obtain ⟨rfl, rfl⟩ := h
        obtain rfl := hlo _ _ rfl; obtain rfl := hhi' rfl; obtain rfl := hmx' rfl
        obtain ⟨hsz, h0, h1⟩ := hp
        refine ⟨_, ?_, .pure _ _ (by simpa using sub l.toNat xs.length cap (by omega) (Nat.le_refl _) hcap (Nat.le_refl _))⟩
        simp [Instr.sliceAt, Instr.slice, run_underlying hu, Instr.sliceBounds, run_sizeOf' hsz, run_sliceBound _ _ _ _ _ h0 h1]
      · rename_i k hh'
        obtain ⟨rfl, rfl⟩ := h
        obtain rfl := hlo' rfl; obtain rfl := hhi _ _ rfl; obtain rfl := hmx' rfl
        obtain ⟨hsz, h0, h1⟩ := hp
        have h2 : hh' ≤ (cap : Nat) := by omega
        refine ⟨_, ?_, .pure _ _ (by simpa using sub 0 hh'.toNat cap (by omega) (by omega) (by omega) (Nat.le_refl _))⟩
        simp [Instr.sliceAt, Instr.slice, run_underlying hu, Instr.sliceBounds, run_sizeOf' hsz, run_sliceBound _ _ _ _ _ h0 h2]
      · rename_i k l k' hh'
        obtain ⟨rfl, rfl⟩ := h
        obtain rfl := hlo _ _ rfl; obtain rfl := hhi _ _ rfl; obtain rfl := hmx' rfl
        obtain ⟨hsz, h0, h1, h2⟩ := hp
        have h3 : hh' ≤ (cap : Nat) := by omega
        have h4 : l ≤ (hh'.toNat : Nat) := by omega
        have h5 : (0 : Int) ≤ hh' := by omega
        refine ⟨_, ?_, .pure _ _ (by simpa using sub l.toNat hh'.toNat cap (by omega) (by omega) (by omega) (Nat.le_refl _))⟩
        simp [Instr.sliceAt, Instr.slice, run_underlying hu, Instr.sliceBounds, run_sizeOf' hsz, run_sliceBound _ _ _ _ _ h5 h3, run_sliceBound _ _ _ _ _ h0 h4]
      · rename_i k hh' k' m
        obtain ⟨rfl, rfl⟩ := h
        obtain rfl := hlo' rfl; obtain rfl := hhi _ _ rfl; obtain rfl := hmx _ _ rfl
        obtain ⟨hsz, h0, h1, h2⟩ := hp
        have h3 : m ≤ (cap : Nat) := by omega
        have h4 : hh' ≤ (m.toNat : Nat) := by omega
        have h5 : (0 : Int) ≤ m := by omega
        have key := sub 0 hh'.toNat m.toNat (by omega) (by omega) (by omega) (by omega)
        refine ⟨.slice (if m.toNat = 0 then a else a.map (·.add (0 * sz))) (hh'.toNat - 0) (m.toNat - 0), ?_, .pure _ _ ?_⟩
        · simp [Instr.sliceAt, Instr.slice, run_underlying hu, Instr.sliceBounds, run_sizeOf' hsz, run_sliceBound _ _ _ _ _ h5 h3, run_sliceBound _ _ _ _ _ h0 h4]
        · by_cases hm0 : m = 0
          · subst hm0
            obtain rfl : hh' = 0 := by omega
            simp only [decide_true, cond_true]
            exact .nil0 _
          · simp only [decide_eq_false hm0, cond_false]
            simpa using key
    · simp at h
  · rename_i id i j hw
    split at h
    · rename_i n el hu
      split at h <;> simp only [Option.some.injEq, reduceCtorEq, Prod.mk.injEq] at h
      obtain ⟨rfl, rfl⟩ := h
      obtain rfl := hlo' rfl; obtain rfl := hhi' rfl; obtain rfl := hmx' rfl
      obtain ⟨rfl, rfl, hsz0, hw1, hmi⟩ := hp
      obtain ⟨sz', hsz⟩ := Option.isSome_iff_exists.1 hsz0
      cases hx with
      | pure _ _ h => cases h
      | ptr _ _ _ _ pa sz ro d c hL hle hr =>
        have hmi' : n ≤ maxLen := by simpa [maxLen, maxInt] using hmi
        refine ⟨.slice (some pa) n n, ?_, .ref id 0 n hw _ _ _ sz ro d c hL hle (fun e => ?_)⟩
        · simp [Instr.sliceAt, run_underlying hu, Instr.sureAddr, Instr.sliceBounds, run_sizeOf' hsz, Addr.add]
        · obtain ⟨b, hb, rfl⟩ := hr e
          refine ⟨by omega, .inr ⟨b, n, _, hb, rfl, Nat.le_refl _, hmi', .inr ⟨by simp, ?_⟩⟩⟩
          rcases hhp.blk id sz ro d c hL with ⟨h1, _⟩ | ⟨b', vs, rest, e', lo', hi', h1, h2, h3, h4⟩
          · rw [hb] at h1; cases h1
          · rw [hb] at h1; cases h1
            refine ⟨_, _, _, h2, ?_⟩
            have e2 : n * sz = vs.length := by rw [h4.1, ← e, hw1]
            simp [e2]
    · simp at h
  · simp at h

/-! ### len, min, max -/
def evLen (P : Program) (t : TypeId) (x : AV) : Option (AV × Prop) :=
  match P.underlying t with
  | some .string => match x with | .str s => some (.int .i64 s.length, True) | _ => none
  | some (.slice _) => match x with | .list _ l => some (.int .i64 l.length, True) | .nils => some (.int .i64 0, True) | .nil0 => some (.int .i64 0, True) | _ => none
  | some (.array n _) => some (.int .i64 n, True)
  | _ => none

theorem evLen_ok {P t ty x v' p w ok L φ vx} (h : evLen P t x = some (v', p)) (hp : p) (hx : R w ok L φ x vx) :
    ∃ v, (Builtin.len_ #[t] ty #[vx]).run P w = .ok v w ∧ R w ok L φ v' v := by
  unfold evLen at h
  split at h
  · rename_i hu
    split at h <;> simp only [Option.some.injEq, reduceCtorEq, Prod.mk.injEq] at h
    obtain ⟨rfl, rfl⟩ := h
    rename_i s
    obtain rfl : vx = .string ⟨s.toArray⟩ := by cases hx with | pure _ _ hx => cases hx; rfl
    have hsz : (ByteArray.mk s.toArray).size = s.length := by simp [ByteArray.size]
    exact ⟨_, by simp [Builtin.len_, run_underlying hu, hsz, goInt], .pure _ _ (.int _ _)⟩
  · rename_i e hu
    split at h <;> simp only [Option.some.injEq, reduceCtorEq, Prod.mk.injEq] at h <;> obtain ⟨rfl, rfl⟩ := h
    · rename_i sz l
      obtain ⟨a, cap, rfl, hcap, hmx, hh⟩ := hx.listInv.listInv
      exact ⟨_, by simp [Builtin.len_, run_underlying hu, goInt], .pure _ _ (.int _ _)⟩
    · obtain rfl : vx = .slice none 0 0 := by cases hx with | pure _ _ hx => cases hx; rfl
      exact ⟨_, by simp [Builtin.len_, run_underlying hu, goInt], .pure _ _ (.int _ _)⟩
    · obtain ⟨a0, rfl⟩ : ∃ a0, vx = .slice a0 0 0 := by cases hx with | pure _ _ hx => cases hx; exact ⟨_, rfl⟩
      exact ⟨_, by simp [Builtin.len_, run_underlying hu, goInt], .pure _ _ (.int _ _)⟩
  · rename_i n e hu
    simp only [Option.some.injEq, Prod.mk.injEq] at h
    obtain ⟨rfl, rfl⟩ := h
    exact ⟨_, by simp [Builtin.len_, run_underlying hu, goInt], .pure _ _ (.int _ _)⟩
  · simp at h

def evMax (x y : AV) : Option (AV × Prop) :=
  match x, y with
  | .int k a, .int _ b => some (.int k (max a b), True)
  | _, _ => none
def evMin (x y : AV) : Option (AV × Prop) :=
  match x, y with
  | .int k a, .int _ b => some (.int k (min a b), True)
  | _, _ => none

theorem evMax_ok {P t ty x y v' p w ok L φ vx vy} (h : evMax x y = some (v', p)) (hp : p) (hx : R w ok L φ x vx) (hy : R w ok L φ y vy) :
    ∃ v, (Builtin.max_ t ty #[vx, vy]).run P w = .ok v w ∧ R w ok L φ v' v := by
  unfold evMax at h
  split at h
  · rename_i k a k' b
    simp only [Option.some.injEq, Prod.mk.injEq] at h
    obtain ⟨rfl, rfl⟩ := h
    obtain rfl : vx = .int k a := by cases hx with | pure _ _ hx => cases hx; rfl
    obtain rfl : vy = .int k' b := by cases hy with | pure _ _ hy => cases hy; rfl
    refine ⟨.int k (max a b), ?_, .pure _ _ (.int _ _)⟩
    simp [Builtin.max_, Builtin.max2]
    omega
  · simp at h
theorem evMin_ok {P t ty x y v' p w ok L φ vx vy} (h : evMin x y = some (v', p)) (hp : p) (hx : R w ok L φ x vx) (hy : R w ok L φ y vy) :
    ∃ v, (Builtin.min_ t ty #[vx, vy]).run P w = .ok v w ∧ R w ok L φ v' v := by
  unfold evMin at h
  split at h
  · rename_i k a k' b
    simp only [Option.some.injEq, Prod.mk.injEq] at h
    obtain ⟨rfl, rfl⟩ := h
    obtain rfl : vx = .int k a := by cases hx with | pure _ _ hx => cases hx; rfl
    obtain rfl : vy = .int k' b := by cases hy with | pure _ _ hy => cases hy; rfl
    refine ⟨.int k (min a b), ?_, .pure _ _ (.int _ _)⟩
    simp [Builtin.min_, Builtin.min2]
    omega
  · simp at h

/-! ### building a struct -/
def setAt (cs : List AV) (o : Nat) (vs : List AV) : List AV := cs.take o ++ (vs ++ cs.drop (o + vs.length))

def fillA (place : Nat → Option (Nat × Nat)) : List AV → List (Nat × AV) → Option (List AV)
  | cs, [] => some cs
  | cs, (i, v) :: rest =>
    match place i with
    | some (o, n) => if v.shaped = true ∧ v.cells.length = n ∧ o + n ≤ cs.length then fillA place (setAt cs o v.cells) rest else none
    | none => none

def placesL (P : Program) : List Field → Option (List (Nat × Nat))
  | [] => some []
  | f :: r => match szT P f.type, placesL P r with
    | some n, some ps => some ((f.offset, n) :: ps)
    | _, _ => none

theorem run_places {P : Program} {w : World} : ∀ {fs : List Field} {ps : List (Nat × Nat)}, placesL P fs = some ps →
    ((fs.mapM fun f => do pure (f.offset, ← sizeOf f.type) : Sem (List (Nat × Nat))).run P w = .ok ps w)
  | [], ps, h => by simp [placesL] at h; subst h; simp
  | f :: r, ps, h => by
    simp only [placesL] at h
    split at h
    · rename_i n ps' hn hr
      simp only [Option.some.injEq] at h
      subst h
      simp only [List.mapM_cons, Sem.run_bind, run_sizeOf' hn, Result.andThen_ok, run_places hr, Sem.run_pure]
    · simp at h

/-- Cells and what they stand for. -/
def RC (w : World) (ok : Nat → Nat → Prop) (L : Nat → Option Blk) (φ : Nat → Option Nat) (cs : List AV) (vs : List Value) : Prop :=
  vs.length = cs.length ∧ (∀ (i : Nat) (v : Value), vs[i]? = some v → v.oneCell' = true) ∧ ∀ (i : Nat) (a : AV) (v : Value), cs[i]? = some a → vs[i]? = some v → R w ok L φ a v

theorem RC.append {w ok L φ cs cs' vs vs'} (h : RC w ok L φ cs vs) (h' : RC w ok L φ cs' vs') : RC w ok L φ (cs ++ cs') (vs ++ vs') := by
  obtain ⟨l1, o1, r1⟩ := h
  obtain ⟨l2, o2, r2⟩ := h'
  refine ⟨by simp [l1, l2], fun i v hv => ?_, fun i a v ha hv => ?_⟩
  · rw [List.getElem?_append] at hv
    split at hv
    · exact o1 _ _ hv
    · exact o2 _ _ hv
  · rw [List.getElem?_append] at ha hv
    split at ha
    · rw [if_pos (by omega)] at hv; exact r1 _ _ _ ha hv
    · rw [if_neg (by omega), l1] at hv; exact r2 _ _ _ ha hv
theorem RC.take {w ok L φ cs vs} (h : RC w ok L φ cs vs) (n : Nat) : RC w ok L φ (cs.take n) (vs.take n) := by
  obtain ⟨l1, o1, r1⟩ := h
  refine ⟨by simp [l1], fun i v hv => ?_, fun i a v ha hv => ?_⟩
  · rw [List.getElem?_take] at hv; split at hv; exact o1 _ _ hv; simp at hv
  · rw [List.getElem?_take] at ha hv
    split at ha
    · rename_i hlt; simp only [hlt, if_true] at hv; exact r1 _ _ _ ha hv
    · simp at ha
theorem RC.drop {w ok L φ cs vs} (h : RC w ok L φ cs vs) (n : Nat) : RC w ok L φ (cs.drop n) (vs.drop n) := by
  obtain ⟨l1, o1, r1⟩ := h
  refine ⟨by simp [l1], fun i v hv => ?_, fun i a v ha hv => ?_⟩
  · rw [List.getElem?_drop] at hv; exact o1 _ _ hv
  · rw [List.getElem?_drop] at ha hv; exact r1 _ _ _ ha hv
theorem RC.setAt {w ok L φ cs vs ds us} (h : RC w ok L φ cs vs) (h' : RC w ok L φ ds us) (o : Nat) :
    RC w ok L φ (setAt cs o ds) (vs.take o ++ (us ++ vs.drop (o + us.length))) := by
  unfold Abs.setAt
  rw [h'.1]
  exact (h.take o).append (h'.append (h.drop _))

/-- The cells of a value whose cells are all of one cell. -/
theorem R.rc {w ok L φ a v} (h : R w ok L φ a v) (hs : a.shaped = true) (ho : ∀ u ∈ v.cells, u.oneCell' = true) :
    RC w ok L φ a.cells v.cells.toList := by
  obtain ⟨vs, e, hl, hr⟩ := h.cells hs
  rw [e] at ho ⊢
  exact ⟨hl, fun i u hu => ho u (by simpa using List.mem_of_getElem? hu), hr⟩

/-- Values whose every cell is one cell: all but tuples, and what we know nothing of. -/
def AV.flat : AV → Bool
  | .any | .cond .. | .own .. | .tuple _ | .nxt .. => false
  | _ => true
theorem AV.flat_shaped {a : AV} (h : a.flat = true) : a.shaped = true := by cases a <;> simp_all [AV.flat, AV.shaped]
theorem R.flat {w ok L φ a v} (h : R w ok L φ a v) (hf : a.flat = true) : ∀ u ∈ v.cells, u.oneCell' = true := by
  by_cases hagg : ∃ cs, a = .agg cs
  · obtain ⟨cs, rfl⟩ := hagg
    obtain ⟨vs, rfl, hl, ho, hr⟩ := h.aggInv
    intro u hu
    simp only [Value.cells] at hu
    obtain ⟨i, hi, rfl⟩ := List.mem_iff_getElem.1 (by simpa using hu)
    exact ho i _ (List.getElem?_eq_getElem hi)
  · have h1 : a.one = true := by
      cases a <;> simp_all [AV.flat, AV.one]
    obtain ⟨h2, h3⟩ := h.one h1
    rw [h3]
    intro u hu
    simp at hu
    subst hu
    exact h2
theorem R.rcf {w ok L φ a v} (h : R w ok L φ a v) (hf : a.flat = true) : RC w ok L φ a.cells v.cells.toList := h.rc (AV.flat_shaped hf) (h.flat hf)

theorem foldl_setAt (vs : List Value) (us : List Value) (o : Nat) (h : o + us.length ≤ vs.length) :
    (us.toArray.zipIdx.foldl (fun (cs : Array Value) (x : Value × Nat) => cs.setIfInBounds (o + x.2) x.1) vs.toArray) = (vs.take o ++ (us ++ vs.drop (o + us.length))).toArray := by
  have key : ∀ (us : List Value) (k : Nat) (vs : List Value), o + k + us.length ≤ vs.length →
      (us.zipIdx k).foldl (fun (cs : Array Value) (x : Value × Nat) => cs.setIfInBounds (o + x.2) x.1) vs.toArray = (vs.take (o + k) ++ (us ++ vs.drop (o + k + us.length))).toArray := by
    intro us
    induction us with
    | nil => intro k vs h; simp
    | cons u us ih =>
      intro k vs h
      simp only [List.zipIdx_cons, List.foldl_cons, List.setIfInBounds_toArray]
      rw [ih (k + 1) (vs.set (o + k) u) (by simp at h ⊢; omega)]
      congr 1
      simp only [List.length_cons] at h
      apply List.ext_getElem?
      intro i
      have hlt : o + k < vs.length := by omega
      simp only [List.getElem?_append, List.length_take, List.length_set, List.getElem?_take, List.getElem?_drop, List.getElem?_set, List.length_cons]
      by_cases h1 : i < o + k
      · rw [if_pos (by omega), if_pos (by omega), if_neg (by omega), if_pos (by omega), if_pos (by omega)]
      · by_cases h2 : i = o + k
        · subst h2
          rw [if_pos (by omega), if_pos (by omega), if_pos rfl, if_pos hlt, if_neg (by omega), if_pos (by omega)]
          simp [Nat.min_eq_left (Nat.le_of_lt hlt)]
        · by_cases h3 : i < o + k + 1 + us.length
          · rw [if_neg (by omega), if_pos (by omega), if_neg (by omega), if_pos (by omega)]
            rw [List.getElem?_cons, if_neg (by omega)]
            congr 1; omega
          · rw [if_neg (by omega), if_neg (by omega), if_neg (by omega), if_neg (by omega), if_neg (by omega)]
            congr 1; omega
  have := key us 0 vs (by omega)
  simp only [Nat.add_zero] at this
  rw [← this]
  rw [← Array.foldl_toList]
  simp

theorem fill_ok {w ok L φ} {place : Nat → Option (Nat × Nat)} : ∀ (ps : List (Nat × AV)) (qs : List (Nat × Value)) (cs : List AV) (vs : List Value) (r : List AV),
    fillA place cs ps = some r → RC w ok L φ cs vs → qs.length = ps.length →
    (∀ (i : Nat) (x : Nat × AV) (y : Nat × Value), ps[i]? = some x → qs[i]? = some y → y.1 = x.1 ∧ R w ok L φ x.2 y.2) → (∀ x ∈ ps, x.2.flat = true) →
    ∃ us, Instr.fill place vs.toArray qs = some us.toArray ∧ RC w ok L φ r us
  | [], [], cs, vs, r, h, hrc, _, _, _ => by
    simp [fillA] at h; subst h
    exact ⟨vs, rfl, hrc⟩
  | [], _ :: _, _, _, _, _, _, hl, _, _ => by simp at hl
  | _ :: _, [], _, _, _, _, _, hl, _, _ => by simp at hl
  | (i, v) :: ps, (j, u) :: qs, cs, vs, r, h, hrc, hl, hq, hfl => by
    obtain ⟨hji, huv⟩ := hq 0 (i, v) (j, u) rfl rfl
    simp only at hji huv
    subst hji
    simp only [fillA] at h
    simp only [Instr.fill]
    split at h
    · rename_i o n hp
      split at h
      · rename_i hc
        obtain ⟨hs, hn, hle⟩ := hc
        have hr := huv.rcf (hfl (j, v) (by simp))
        have hlen : u.cells.size = n := by rw [← hn, ← hr.1]; simp
        simp only [hp]
        rw [if_neg (by simp [hlen, hrc.1]; omega)]
        have hfold := foldl_setAt vs u.cells.toList o (by rw [hr.1, hn, hrc.1]; exact hle)
        simp only [Array.toArray_toList] at hfold
        rw [hfold]
        exact fill_ok ps qs _ _ r h (hrc.setAt hr o) (by simpa using hl) (fun k x y hx hy => hq (k + 1) x y (by simpa using hx) (by simpa using hy)) (fun x hx => hfl x (by simp [hx]))
      · simp at h
    · simp at h

def evBuild (P : Program) (t : TypeId) (ps : List (Nat × AV)) : Option (AV × Prop) :=
  match P.underlying t, zT P t with
  | some (.struct fields), some (.agg zs) =>
    match placesL P fields.toList with
    | some pl => (fillA (fun i => pl[i]?) zs ps).map fun cs => (.agg cs, (∀ x ∈ ps, x.2.flat = true) ∧ (∀ z ∈ zs, z.flat = true))
    | none => none
  | some (.array _ el), some (.agg zs) =>
    match szT P el with
    | some n => (fillA (fun i => some (i * n, n)) zs ps).map fun cs => (.agg cs, (∀ x ∈ ps, x.2.flat = true) ∧ (∀ z ∈ zs, z.flat = true))
    | none => none
  | _, _ => none

theorem AV.ofVal_one {v : Value} (h : (AV.ofVal v).flat = true) : v.oneCell' = true := by
  unfold AV.ofVal at h
  split at h <;> simp_all [AV.flat, Value.oneCell']

theorem zT_spec {P t z} (h : zT P t = some z) : ∃ i u, P.info? t = some i ∧ i.zero = some u ∧ z = .ofZero u := by
  unfold zT at h
  simp only [Option.map_eq_some_iff, Option.bind_eq_some_iff] at h
  obtain ⟨u, ⟨i, hi, hz⟩, rfl⟩ := h
  exact ⟨i, u, hi, hz, rfl⟩

theorem ofZero_agg {u : Value} {zs : List AV} (h : AV.ofZero u = .agg zs) : ∃ cs : Array Value, u = .agg cs ∧ zs = cs.toList.map AV.ofVal := by
  unfold AV.ofZero at h
  split at h
  · rename_i cs
    simp only [AV.agg.injEq] at h
    exact ⟨cs, rfl, h.symm⟩
  · rename_i hne
    unfold AV.ofVal at h
    split at h <;> simp at h

theorem RC_zero {w ok L φ} (cs : List Value) (h : ∀ z ∈ cs.map AV.ofVal, z.flat = true) : RC w ok L φ (cs.map AV.ofVal) cs := by
  refine ⟨by simp, fun i v hv => AV.ofVal_one (h _ (List.mem_map.2 ⟨v, List.mem_of_getElem? hv, rfl⟩)), fun i a v ha hv => ?_⟩
  simp only [List.getElem?_map, hv, Option.map_some, Option.some.injEq] at ha
  subst ha
  exact .pure _ _ (Rp_ofVal w ok v)

theorem evBuild_ok {P t ps v' p w ok L φ} {qs : Array (Nat × Value)} (h : evBuild P t ps = some (v', p)) (hp : p) (hl : qs.size = ps.length)
    (hq : ∀ (i : Nat) (x : Nat × AV) (y : Nat × Value), ps[i]? = some x → qs[i]? = some y → y.1 = x.1 ∧ R w ok L φ x.2 y.2) :
    ∃ v, (Instr.build t qs).run P w = .ok v w ∧ R w ok L φ v' v := by
  unfold evBuild at h
  split at h
  · rename_i fields zs hu hz
    obtain ⟨i, u, hi, hzu, hzz⟩ := zT_spec hz
    obtain ⟨cs, rfl, rfl⟩ := ofZero_agg hzz.symm
    split at h
    · rename_i pl hpl
      simp only [Option.map_eq_some_iff, Prod.mk.injEq] at h
      obtain ⟨r, hf, rfl, rfl⟩ := h
      obtain ⟨hfl, hzf⟩ := hp
      obtain ⟨us, hus, hrc⟩ := fill_ok ps qs.toList _ cs.toList r hf (RC_zero _ hzf) (by simpa using hl) (fun i x y hx hy => hq i x y hx (by simpa using hy)) hfl
      refine ⟨.agg us.toArray, ?_, .agg _ _ hrc.1 hrc.2.1 hrc.2.2⟩
      have hm : (fields.mapM fun f => do pure (f.offset, ← sizeOf f.type) : Sem (Array (Nat × Nat))).run P w = .ok pl.toArray w := by
        rw [Array.mapM_eq_mapM_toList, Sem.run_map, run_places hpl]
        rfl
      have hplace : (fun (x : Nat) => pl.toArray[x]?) = (fun (i : Nat) => pl[i]?) := by funext x; simp
      simp only [Instr.build, Sem.run_bind, zeroValue, typeInfo, run_program, Result.andThen_ok, hi, Sem.run_pure, hzu, Value.cells, run_underlying hu, hm]
      simp only [Array.toArray_toList] at hus
      rw [hplace, hus]
      rfl
    · simp at h
  · rename_i len el zs hu hz
    obtain ⟨i, u, hi, hzu, hzz⟩ := zT_spec hz
    obtain ⟨cs, rfl, rfl⟩ := ofZero_agg hzz.symm
    split at h
    · rename_i n hn
      simp only [Option.map_eq_some_iff, Prod.mk.injEq] at h
      obtain ⟨r, hf, rfl, rfl⟩ := h
      obtain ⟨hfl, hzf⟩ := hp
      obtain ⟨us, hus, hrc⟩ := fill_ok ps qs.toList _ cs.toList r hf (RC_zero _ hzf) (by simpa using hl) (fun i x y hx hy => hq i x y hx (by simpa using hy)) hfl
      refine ⟨.agg us.toArray, ?_, .agg _ _ hrc.1 hrc.2.1 hrc.2.2⟩
      simp only [Instr.build, Sem.run_bind, zeroValue, typeInfo, run_program, Result.andThen_ok, hi, Sem.run_pure, hzu, Value.cells, run_underlying hu, run_sizeOf' hn]
      simp only [Array.toArray_toList] at hus
      rw [hus]
      rfl
    · simp at h
  · simp at h
end Go.Abs
set_option linter.unusedVariables false
set_option linter.unusedSimpArgs false
namespace Go.Abs

def eqInt : AV → AV → Option (Bool × Prop)
  | .int k a, .int k' b => if k = k' then some (decide (a = b), True) else none
  | _, _ => none
def eqBool : AV → AV → Option (Bool × Prop)
  | .bool a, .bool b => some (a == b, True)
  | _, _ => none
def eqStr : AV → AV → Option (Bool × Prop)
  | .str a, .str b => some (decide (a = b), True)
  | _, _ => none
def eqPtr : AV → AV → Option (Bool × Prop)
  | .nilp, .nilp => some (true, True)
  | .nilp, .ptr .. => some (false, True)
  | .ptr .., .nilp => some (false, True)
  | .nilp, .radr _ => some (false, True)
  | .radr _, .nilp => some (false, True)
  | _, _ => none
def eqSl : AV → AV → Option (Bool × Prop)
  | .nils, .nils => some (true, True)
  | _, _ => none
def eqFn : AV → AV → Option (Bool × Prop)
  | .nilf, .nilf => some (true, True)
  | .nilf, .clo .. => some (false, True)
  | .clo .., .nilf => some (false, True)
  | _, _ => none
/-- A part of a struct, by its field. -/
def fldA (P : Program) (xs : List AV) (f : Field) : Option (AV × Prop) :=
  match aggT P f.type, szT P f.type with
  | some false, some _ => some (xs.getD f.offset .any, f.offset < xs.length)
  | some true, some n => some (.agg ((xs.drop f.offset).take n), True)
  | _, _ => none
def evEqF (P : Program) (eq : TypeId → AV → AV → Option (Bool × Prop)) (xs ys : List AV) : List Field → Option (Bool × Prop)
  | [] => some (true, True)
  | f :: fs =>
    if f.name = "_" then evEqF P eq xs ys fs
    else match fldA P xs f, fldA P ys f with
      | some (a, p1), some (b, p2) => match eq f.type a b, evEqF P eq xs ys fs with
        | some (r, p), some (r', p') => some (r && r', p1 ∧ p2 ∧ p ∧ p')
        | _, _ => none
      | _, _ => none
def evEqS (P : Program) (eq : TypeId → AV → AV → Option (Bool × Prop)) (t : TypeId) (fs : List Field) : AV → AV → Option (Bool × Prop)
  | .agg xs, .agg ys => (evEqF P eq xs ys fs).map fun r => (r.1, r.2 ∧ P.stoodInHeld t = false)
  | _, _ => none
def evEq (P : Program) : Nat → TypeId → AV → AV → Option (Bool × Prop)
  | 0, _, _, _ => none
  | n + 1, t, x, y => match P.underlying t with
    | some .bool => eqBool x y
    | some (.int _) => eqInt x y
    | some .string => eqStr x y
    | some (.pointer _) => eqPtr x y
    | some (.slice _) => eqSl x y
    | some (.func ..) => eqFn x y
    | some (.struct fs) => evEqS P (evEq P n) t fs.toList x y
    | _ => none

theorem R.boolInv' {w ok L φ b v} (h : R w ok L φ (.bool b) v) : v = .bool b := by cases h with | pure _ _ h => cases h; rfl
theorem R.intInv' {w ok L φ k n v} (h : R w ok L φ (.int k n) v) : v = .int k n := by cases h with | pure _ _ h => cases h; rfl
theorem R.strInv' {w ok L φ s v} (h : R w ok L φ (.str s) v) : v = .string ⟨s.toArray⟩ := by cases h with | pure _ _ h => cases h; rfl

theorem fld_ok {P : Program} {w ok L φ} {xs : List AV} {vs : List Value} {f : Field} {a : AV} {p : Prop} (h : fldA P xs f = some (a, p)) (hp : p) (hl : vs.length = xs.length)
    (ho : ∀ (i : Nat) (v : Value), vs[i]? = some v → v.oneCell' = true) (hr : ∀ (i : Nat) (a : AV) (v : Value), xs[i]? = some a → vs[i]? = some v → R w ok L φ a v) :
    ∃ v, (part f.type vs.toArray f.offset).run P w = .ok v w ∧ R w ok L φ a v := by
  unfold fldA at h
  split at h <;> simp only [Option.some.injEq, reduceCtorEq, Prod.mk.injEq] at h
  · rename_i m hag hsz
    obtain ⟨rfl, rfl⟩ := h
    have hm : f.offset < vs.length := by omega
    refine ⟨vs[f.offset], ?_, ?_⟩
    · simp [part, run_isAgg' hag, List.getElem?_eq_getElem hm]
    · have : xs.getD f.offset .any = xs[f.offset] := by simp [List.getD_eq_getElem?_getD, List.getElem?_eq_getElem hp]
      rw [this]
      exact hr _ _ _ (List.getElem?_eq_getElem hp) (List.getElem?_eq_getElem hm)
  · rename_i n hag hsz
    obtain ⟨rfl, rfl⟩ := h
    refine ⟨.agg ((vs.drop f.offset).take n).toArray, ?_, R.aggSub hl ho hr _ _⟩
    simp [part, run_isAgg' hag, run_sizeOf' hsz, extract_toList']

theorem evEqF_ok {P : Program} {w ok L φ} {eq : TypeId → AV → AV → Option (Bool × Prop)} {d : Nat} (heq : ∀ t x y b p vx vy, eq t x y = some (b, p) → p → R w ok L φ x vx → R w ok L φ y vy → (Op.equalIn d t vx vy).run P w = .ok b w)
    {xs ys : List AV} {us vs : List Value} (hl : us.length = xs.length) (ho : ∀ (i : Nat) (v : Value), us[i]? = some v → v.oneCell' = true) (hr : ∀ (i : Nat) (a : AV) (v : Value), xs[i]? = some a → us[i]? = some v → R w ok L φ a v)
    (hl' : vs.length = ys.length) (ho' : ∀ (i : Nat) (v : Value), vs[i]? = some v → v.oneCell' = true) (hr' : ∀ (i : Nat) (a : AV) (v : Value), ys[i]? = some a → vs[i]? = some v → R w ok L φ a v) :
    ∀ (fs : List Field) (b : Bool) (p : Prop), evEqF P eq xs ys fs = some (b, p) → p → (Op.eqFields d us.toArray vs.toArray fs).run P w = .ok b w
  | [], b, p, h, hp => by
    simp only [evEqF, Option.some.injEq, Prod.mk.injEq] at h
    obtain ⟨rfl, _⟩ := h
    simp [Op.eqFields]
  | f :: fs, b, p, h, hp => by
    simp only [evEqF] at h
    by_cases hn : f.name = "_"
    · rw [if_pos hn] at h
      have := evEqF_ok heq hl ho hr hl' ho' hr' fs b p h hp
      simp [Op.eqFields, hn, this]
    · rw [if_neg hn] at h
      split at h <;> try (simp at h; done)
      rename_i a p1 c p2 h1 h2
      split at h <;> simp only [Option.some.injEq, reduceCtorEq, Prod.mk.injEq] at h
      rename_i r q r' q' h3 h4
      obtain ⟨rfl, rfl⟩ := h
      obtain ⟨g1, g2, g3, g4⟩ := hp
      obtain ⟨v1, k1, k2⟩ := fld_ok h1 g1 hl ho hr
      obtain ⟨v2, k3, k4⟩ := fld_ok h2 g2 hl' ho' hr'
      have k5 := heq _ _ _ _ _ _ _ h3 g3 k2 k4
      have k6 := evEqF_ok heq hl ho hr hl' ho' hr' fs r' q' h4 g4
      simp only [Op.eqFields, ne_eq, hn, not_false_eq_true, if_true, Sem.run_bind, k1, k3, k5, Result.andThen_ok]
      cases r
      · simp
      · simp [k6]

theorem evEq_ok {P : Program} {w ok L φ} : ∀ (n : Nat) (t : TypeId) (x y : AV) (b : Bool) (p : Prop) (vx vy : Value) (d : Nat), n ≤ d → evEq P n t x y = some (b, p) → p → R w ok L φ x vx → R w ok L φ y vy → (Op.equalIn d t vx vy).run P w = .ok b w
  | 0, t, x, y, b, p, vx, vy, d, _, h, _, _, _ => by simp [evEq] at h
  | n + 1, t, x, y, b, p, vx, vy, 0, hd, h, hp, hx, hy => by omega
  | n + 1, t, x, y, b, p, vx, vy, d + 1, hd, h, hp, hx, hy => by
    simp only [evEq] at h
    split at h
    · rename_i hu
      unfold eqBool at h
      split at h <;> simp only [Option.some.injEq, reduceCtorEq, Prod.mk.injEq] at h
      obtain ⟨rfl, _⟩ := h
      rw [hx.boolInv', hy.boolInv']
      simp [Op.equalIn, run_underlying hu]
    · rename_i k hu
      unfold eqInt at h
      split at h
      · split at h <;> simp only [Option.some.injEq, reduceCtorEq, Prod.mk.injEq] at h
        rename_i hk
        subst hk
        obtain ⟨rfl, _⟩ := h
        rw [hx.intInv', hy.intInv']
        simp [Op.equalIn, run_underlying hu]
        rw [Bool.eq_iff_iff]; simp
      · simp at h
    · rename_i hu
      unfold eqStr at h
      split at h <;> simp only [Option.some.injEq, reduceCtorEq, Prod.mk.injEq] at h
      obtain ⟨rfl, _⟩ := h
      rw [hx.strInv', hy.strInv']
      rename_i a c _
      have e : ((⟨a.toArray⟩ : ByteArray) == ⟨c.toArray⟩) = decide (a = c) := by
        rw [beq_toListBytes, ByteArray.toList_eq, ByteArray.toList_eq, Bool.eq_iff_iff]
        simp
      simp [Op.equalIn, run_underlying hu, e]
    · rename_i e hu
      unfold eqPtr at h
      split at h <;> simp only [Option.some.injEq, reduceCtorEq, Prod.mk.injEq] at h <;> obtain ⟨rfl, _⟩ := h
      · obtain rfl : vx = .pointer none := by cases hx with | pure _ _ h => cases h; rfl
        obtain rfl : vy = .pointer none := by cases hy with | pure _ _ h => cases h; rfl
        simp [Op.equalIn, run_underlying hu]
      · obtain rfl : vx = .pointer none := by cases hx with | pure _ _ h => cases h; rfl
        obtain ⟨pa, rfl⟩ : ∃ pa, vy = .pointer (some pa) := by cases hy with | pure _ _ h => cases h | ptr _ _ _ _ pa => exact ⟨pa, rfl⟩
        simp [Op.equalIn, run_underlying hu]
      · obtain rfl : vy = .pointer none := by cases hy with | pure _ _ h => cases h; rfl
        obtain ⟨pa, rfl⟩ : ∃ pa, vx = .pointer (some pa) := by cases hx with | pure _ _ h => cases h | ptr _ _ _ _ pa => exact ⟨pa, rfl⟩
        simp [Op.equalIn, run_underlying hu]
      · obtain rfl : vx = .pointer none := by cases hx with | pure _ _ h => cases h; rfl
        obtain ⟨pa, rfl⟩ : ∃ pa, vy = .pointer (some pa) := by cases hy with | pure _ _ h => cases h; exact ⟨_, rfl⟩
        simp [Op.equalIn, run_underlying hu]
      · obtain rfl : vy = .pointer none := by cases hy with | pure _ _ h => cases h; rfl
        obtain ⟨pa, rfl⟩ : ∃ pa, vx = .pointer (some pa) := by cases hx with | pure _ _ h => cases h; exact ⟨_, rfl⟩
        simp [Op.equalIn, run_underlying hu]
    · rename_i e hu
      unfold eqSl at h
      split at h <;> simp only [Option.some.injEq, reduceCtorEq, Prod.mk.injEq] at h
      obtain ⟨rfl, _⟩ := h
      obtain rfl : vx = .slice none 0 0 := by cases hx with | pure _ _ h => cases h; rfl
      obtain rfl : vy = .slice none 0 0 := by cases hy with | pure _ _ h => cases h; rfl
      simp [Op.equalIn, run_underlying hu]
    · rename_i e1 e2 e3 hu
      unfold eqFn at h
      split at h <;> simp only [Option.some.injEq, reduceCtorEq, Prod.mk.injEq] at h <;> obtain ⟨rfl, _⟩ := h
      · obtain rfl : vx = .nilFunc := by cases hx with | pure _ _ h => cases h; rfl
        obtain rfl : vy = .nilFunc := by cases hy with | pure _ _ h => cases h; rfl
        simp [Op.equalIn, run_underlying hu]
      · obtain rfl : vx = .nilFunc := by cases hx with | pure _ _ h => cases h; rfl
        obtain ⟨f, a, c, rfl⟩ : ∃ f a c, vy = .func f a c := by
          cases hy with
          | pure _ _ h => cases h; exact ⟨_, _, _, rfl⟩
          | clo f k cs vs => exact ⟨_, _, _, rfl⟩
        simp [Op.equalIn, run_underlying hu]
      · obtain rfl : vy = .nilFunc := by cases hy with | pure _ _ h => cases h; rfl
        obtain ⟨f, a, c, rfl⟩ : ∃ f a c, vx = .func f a c := by
          cases hx with
          | pure _ _ h => cases h; exact ⟨_, _, _, rfl⟩
          | clo f k cs vs => exact ⟨_, _, _, rfl⟩
        simp [Op.equalIn, run_underlying hu]
    · rename_i fs hu
      unfold evEqS at h
      split at h <;> try (simp at h; done)
      rename_i xs ys
      simp only [Option.map_eq_some_iff, Prod.mk.injEq] at h
      obtain ⟨⟨r, q⟩, h1, rfl, rfl⟩ := h
      obtain ⟨us, rfl, hl, ho, hr⟩ := hx.aggInv
      obtain ⟨vs, rfl, hl', ho', hr'⟩ := hy.aggInv
      have hf : P.fieldsOf t = fs := by simp [Program.fieldsOf, hu]
      rw [run_equalIn_struct w d t us.toArray vs.toArray (by rw [hf]; exact hu) hp.2, hf]
      exact evEqF_ok (eq := evEq P n) (d := d) (fun t x y b p vx vy h hp hx hy => evEq_ok n t x y b p vx vy d (by omega) h hp hx hy) hl ho hr hl' ho' hr' fs.toList r q h1 hp.1
    · simp at h

def evEqOp (P : Program) (op : BinOp) (t : TypeId) (x y : AV) : Option (AV × Prop) :=
  match op with
  | .eql => (evEq P 8 t x y).map fun r => (.bool r.1, r.2 ∧ P.eqGuardType P.depth t = false)
  | .neq => (evEq P 8 t x y).map fun r => (.bool (!r.1), r.2 ∧ P.eqGuardType P.depth t = false)
  | _ => none
/-- Neither number nor text. -/
def otherA : AV → Bool
  | .agg _ | .ptr .. | .nilp | .radr _ | .nils | .nilf | .clo .. => true
  | _ => false
def evEqO (P : Program) (op : BinOp) (t : TypeId) (x y : AV) : Bool → Option (AV × Prop)
  | true => evEqOp P op t x y
  | false => none
def evEqB (P : Program) (op : BinOp) (t : TypeId) (x y : AV) : Option (AV × Prop) :=
  evEqO P op t x y (otherA x)

theorem other_bin {P : Program} {w ok L φ} {op : BinOp} {t : TypeId} {x : AV} {vx vy : Value} {ox oy : Operand} (ho : otherA x = true) (hx : R w ok L φ x vx) (hg : P.eqGuardType P.depth t = false) (heq : op = .eql ∨ op = .neq) :
    ((do eqGuard op t ox oy vx vy; binOp op t vx vy) : Sem Value).run P w = ((Op.equal t vx vy).run P w).andThen fun b w' => .ok (.bool (match op with | .eql => b | _ => !b)) w' := by
  have key : (∃ xs, vx = .agg xs) ∨ (∃ a, vx = .pointer a) ∨ (∃ a n m, vx = .slice a n m) ∨ vx = .nilFunc ∨ (∃ f a c, vx = .func f a c) := by
    cases hx with
    | pure _ _ h => cases h <;> simp [otherA] at ho <;> simp
    | ref => simp
    | ptr => simp
    | it => simp
    | yld => simp
    | agg => simp
    | tuple => simp [otherA] at ho
    | clo => simp
    | condT => simp [otherA] at ho
  rcases key with ⟨xs, rfl⟩ | ⟨a, rfl⟩ | ⟨a, n, m, rfl⟩ | rfl | ⟨f, a, c, rfl⟩
  · have hgd : ∀ vy, (eqGuard op t ox oy (.agg xs) vy).run P w = .ok () w := by
      intro vy
      cases vy <;> rcases heq with rfl | rfl <;> simp [eqGuard, run_program, hg]
    rw [Sem.run_bind, hgd, Result.andThen_ok]
    rcases heq with rfl | rfl <;> cases vy <;> simp [binOp]
  all_goals
    rw [Sem.run_bind]
    rcases heq with rfl | rfl <;> cases vy <;> simp [eqGuard, binOp]

theorem evEqB_ok {P op t x y v' p w ok L φ vx vy ox oy} (h : evEqB P op t x y = some (v', p)) (hp : p) (hx : R w ok L φ x vx) (hy : R w ok L φ y vy) :
    ∃ v, ((do eqGuard op t ox oy vx vy; binOp op t vx vy) : Sem Value).run P w = .ok v w ∧ R w ok L φ v' v := by
  unfold evEqB at h
  cases ho : otherA x with
  | true =>
    rw [ho] at h
    simp only [evEqO] at h
    unfold evEqOp at h
    split at h
    · simp only [Option.map_eq_some_iff, Prod.mk.injEq] at h
      obtain ⟨⟨r, q⟩, h1, rfl, rfl⟩ := h
      refine ⟨_, ?_, .pure _ _ (.bool r)⟩
      rw [other_bin ho hx hp.2 (.inl rfl)]
      have := evEq_ok (P := P) 8 t x y r q vx vy Op.maxDepth (by decide) h1 hp.1 hx hy
      simp only [Op.equal, this, Result.andThen_ok]
    · simp only [Option.map_eq_some_iff, Prod.mk.injEq] at h
      obtain ⟨⟨r, q⟩, h1, rfl, rfl⟩ := h
      refine ⟨_, ?_, .pure _ _ (.bool (!r))⟩
      rw [other_bin ho hx hp.2 (.inr rfl)]
      have := evEq_ok (P := P) 8 t x y r q vx vy Op.maxDepth (by decide) h1 hp.1 hx hy
      simp only [Op.equal, this, Result.andThen_ok]
    · simp at h
  | false => rw [ho] at h; simp [evEqO] at h

/-- A slice that is read, beside nil: what the comparison says is open where the slice is empty. -/
def evOwn (P : Program) (t : TypeId) (sz : Nat) (l : List AV) : AV → BinOp → Option (AV × Prop)
  | .nils, .eql => match P.underlying t with
    | some (.slice _) => some (.own sz l, True)
    | _ => none
  | _, _ => none
def listA : AV → Option (Nat × List AV)
  | .list sz l => some (sz, l)
  | _ => none
def evBinN (P : Program) (wr : Bool) (op : BinOp) (t : TypeId) (x y : AV) : Option (Nat × List AV) → Option (AV × Prop)
  | some (sz, l) => evOwn P t sz l y op
  | none => evBin P wr op t x y
theorem evBinN_ok {P wr op t x y v' p w ok L φ vx vy ox oy} (h : evBinN P wr op t x y (listA x) = some (v', p)) (hp : p) (hx : R w ok L φ x vx) (hy : R w ok L φ y vy) :
    ∃ v, ((do eqGuard op t ox oy vx vy; binOp op t vx vy) : Sem Value).run P w = .ok v w ∧ R w ok L φ v' v := by
  cases x with
  | list sz l =>
    simp only [listA, evBinN] at h
    unfold evOwn at h
    split at h
    · split at h
      · rename_i e hu
        simp only [Option.some.injEq, Prod.mk.injEq] at h
        obtain ⟨rfl, _⟩ := h
        obtain rfl : vy = .slice none 0 0 := by cases hy with | pure _ _ h => cases h; rfl
        have key : ∃ a n c, vx = .slice a n c ∧ (a.isNone = true → l = []) := by
          cases hx with
          | pure _ _ h => cases h with
            | list0 _ a cap hm => exact ⟨a, 0, cap, rfl, fun _ => rfl⟩
            | list _ _ b off cap => exact ⟨_, _, _, rfl, fun h => by simp at h⟩
        obtain ⟨a, n, c, rfl, hn⟩ := key
        refine ⟨.bool a.isNone, ?_, .pure _ _ (.own sz l _ hn)⟩
        have k : ∀ d, (Op.equalIn (d + 1) t (.slice a n c) (.slice none 0 0)).run P w = .ok a.isNone w := fun d => by cases a <;> simp [Op.equalIn, run_underlying hu]
        have k2 : (Op.equal t (.slice a n c) (.slice none 0 0)).run P w = .ok a.isNone w := k 9999
        simp [eqGuard, binOp, k2]
      · simp at h
    · simp at h
  | _ => simp only [listA, evBinN] at h; exact evBin_ok h hp hx hy
/-- Numbers, texts and Bools; then all else. -/
def evBinS (P : Program) (wr : Bool) (op : BinOp) (t : TypeId) (x y : AV) : Bool → Option (AV × Prop)
  | true => evEqB P op t x y
  | false => evBinN P wr op t x y (listA x)
def evBinX (P : Program) (wr : Bool) (op : BinOp) (t : TypeId) (x y : AV) : Option (AV × Prop) := evBinS P wr op t x y (otherA x)
theorem evBinX_ok {P wr op t x y v' p w ok L φ vx vy ox oy} (h : evBinX P wr op t x y = some (v', p)) (hp : p) (hx : R w ok L φ x vx) (hy : R w ok L φ y vy) :
    ∃ v, ((do eqGuard op t ox oy vx vy; binOp op t vx vy) : Sem Value).run P w = .ok v w ∧ R w ok L φ v' v := by
  unfold evBinX at h
  cases ho : otherA x with
  | true => rw [ho] at h; exact evEqB_ok h hp hx hy
  | false => rw [ho] at h; exact evBinN_ok h hp hx hy
end Go.Abs
