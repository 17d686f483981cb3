/- make, conversion of a text to octets, iterators over texts, append, copy. No condition. -/
import Derived.Test.YtlkfjkimnkhelaaDoorAbsF
set_option linter.unusedVariables false
set_option linter.unusedSimpArgs false
namespace Go.Abs

/-! ### make -/
def efMake (P : Program) (L : Nat → Option Blk) (id : Nat) (t : TypeId) (l c : AV) : Option (AV × Nat × Blk × Prop) :=
  match P.underlying t, L id, l, c with
  | some (.slice el), none, .int _ n, .int _ m => match szT P el, zT P el, byT P el with
    | some sz, some d, some by' =>
      some (.ref id 0 n.toNat n.toNat, id, .cells sz false d (List.replicate n.toNat d),
        d.cells.all AV.flat = true ∧ d.cells.length = sz ∧ 0 < sz ∧ 0 ≤ n ∧ n ≤ m ∧ m ≤ maxInt ∧ (by' : Int) * m ≤ 281474976710656)
    | _, _, _ => none
  | _, _, _, _ => none

theorem getElem_madeCells (z : Array Value) (n k : Nat) (h : k < n) : (madeCells z n).toList[k]? = some z[k % z.size]! := by
  simp [madeCells, List.getElem?_range h]

theorem efMake_ok {P L id t l c v' id' blk p w0 X ok φ w vl vc} (h : efMake P L id t l c = some (v', id', blk, p)) (hp : p) (hh : HeapOK w ok L φ) (hw0 : w0.heap.size ≤ w.heap.size)
    (hl : R w ok L φ l vl) (hc : R w ok L φ c vc) : EffOK P w0 X (Instr.makeSlice t vl vc) L ok φ w v' id' blk := by
  unfold efMake at h
  split at h
  · rename_i el kl n kc m hu hL
    obtain rfl : vl = .int kl n := by cases hl with | pure _ _ h => cases h; rfl
    obtain rfl : vc = .int kc m := by cases hc with | pure _ _ h => cases h; rfl
    split at h <;> simp only [Option.some.injEq, reduceCtorEq, Prod.mk.injEq] at h
    rename_i sz d by' hsz hz hby
    obtain ⟨rfl, rfl, rfl, rfl⟩ := h
    obtain ⟨hf, hdl, hs0, h0, hnm, hm, hb⟩ := hp
    obtain ⟨i, u, hi, hzu, hdz, hr, hrc⟩ := zero_ok w ok L φ hz hf
    have hisz : i.size = sz := by simp [szT, hi] at hsz; exact hsz
    have hiby : i.bytes = by' := by simp [byT, hi] at hby; exact hby
    have hus : u.cells.size = sz := by have := hrc.1; simp at this; omega
    have hrun := run_make (P := P) w t el i u hu hi hzu kl kc n m h0 hnm (by rw [hiby]; exact hb) (by simp only [maxInt] at hm; omega)
    rw [hisz] at hrun
    obtain ⟨k, rfl⟩ := Int.eq_ofNat_of_zero_le h0
    obtain ⟨q, rfl⟩ := Int.eq_ofNat_of_zero_le (show (0 : Int) ≤ m by omega)
    simp only [Int.toNat_natCast] at hrun ⊢
    have hkq : k ≤ q := by omega
    have hcell : ∀ j, j < sz → u.cells.toList[j]? = some u.cells[j]! := fun j hj => by
      have hj' : j < u.cells.size := by omega
      simp [hj', getElem!_pos]
    have hre : RE w ok L φ sz (List.replicate k d) ((madeCells u.cells (q * sz)).toList.take (k * sz)) := by
      have hmul : k * sz ≤ q * sz := Nat.mul_le_mul_right _ hkq
      refine ⟨by simp only [List.length_take, Array.length_toList, size_madeCells, List.length_replicate]; omega, fun i x hx => ?_, fun i x j y hx hy => ?_⟩
      · rw [List.getElem?_replicate] at hx
        split at hx
        · cases hx; exact hdl
        · simp at hx
      · rw [List.getElem?_replicate] at hx
        split at hx
        · rename_i hik
          cases hx
          have hj : j < sz := by rw [← hdl]; exact (List.getElem?_eq_some_iff.1 hy).1
          have hlt := idx_lt hik hj
          refine ⟨u.cells[j]!, ?_, hrc.2.1 j _ (hcell j hj), hrc.2.2 j _ _ hy (hcell j hj)⟩
          rw [List.getElem?_take, if_pos hlt, getElem_madeCells _ _ _ (by omega), hus]
          rw [Nat.mul_comm, Nat.mul_add_mod, Nat.mod_eq_of_lt hj]
        · simp at hx
    have hsplit : (madeCells u.cells (q * sz)) = ((madeCells u.cells (q * sz)).toList.take (k * sz) ++ (madeCells u.cells (q * sz)).toList.drop (k * sz)).toArray := by simp
    have hext := Ext.new (w0 := w0) (X := X) (blk := .cells sz false d (List.replicate k d)) hh hw0 hL (Grow.alloc w (.cells (madeCells u.cells (q * sz)) el))
      (.inl ⟨sz, false, d, _, (madeCells u.cells (q * sz)).toList.take (k * sz), (madeCells u.cells (q * sz)).toList.drop (k * sz), el, 0, 0, rfl, congrArg (fun c => Obj.cells c el (0, 0)) hsplit, fun k _ => by omega, hre⟩)
    refine ⟨_, _, _, hrun, hext, .ref id 0 k k _ _ _ sz false d (List.replicate k d) (by simp [updL]) (by simp) (fun _ => ⟨by omega, .inr ⟨w.heap.size, q, _, by simp [updP], rfl, hkq, ?_, ?_⟩⟩)⟩
    · simp only [maxInt] at hm; simp [maxLen]; omega
    · exact .inr ⟨by simp, _, _, _, heap_alloc_new w _, by simp [size_madeCells]⟩
  · simp at h

/-! ### a text's octets -/
def byteAV (b : UInt8) : AV := .int .u8 b.toNat

def efBytes (P : Program) (L : Nat → Option Blk) (id : Nat) (src dst : TypeId) (x : AV) : Option (AV × Nat × Blk × Prop) :=
  match P.underlying src, P.underlying dst, L id, x with
  | some .string, some (.slice el), none, .str s => match P.underlying el with
    | some (.int .u8) => some (.ref id 0 s.length s.length, id, .cells 1 false (byteAV 0) (s.map byteAV), s.length ≤ maxInt)
    | _ => none
  | _, _, _, _ => none

theorem freeze_end {w : World} {b n : Nat} {cs : Array Value} {e : TypeId} (h : w.heap[b]? = some (.cells cs e (0, 0))) :
    (w.freeze ⟨b, n, none⟩ 1).heap[b]? = some (.cells cs e (n, n + 1)) ∧ (∀ k, k ≠ b → (w.freeze ⟨b, n, none⟩ 1).heap[k]? = w.heap[k]?) ∧ (w.freeze ⟨b, n, none⟩ 1).heap.size = w.heap.size := by
  refine ⟨?_, fun k hk => ?_, ?_⟩
  · simp [World.freeze, Array.getElem?_modify, h]
  · simp only [World.freeze, Nat.succ_ne_zero, if_false, Array.getElem?_modify]
    rw [if_neg (by omega)]
  · simp [World.freeze]

def bytesV (s : List UInt8) : List Value := s.map fun b => Value.int .u8 b.toNat

theorem grow_frozen (w : World) (cs : Array Value) (el : TypeId) :
    Grow (.cells cs el (cs.size, cs.size + 1)) w ((w.drew.alloc (.cells cs el)).freeze ⟨w.heap.size, cs.size, none⟩ 1) := by
  have h : (w.drew.alloc (.cells cs el)).heap[w.heap.size]? = some (.cells cs el (0, 0)) := heap_alloc_new w.drew (.cells cs el)
  obtain ⟨f1, f2, f3⟩ := freeze_end (n := cs.size) h
  refine ⟨by simp only [World.freeze, Nat.succ_ne_zero, if_false]; rfl, by simp only [World.freeze, Nat.succ_ne_zero, if_false]; rfl, by simp only [World.freeze, Nat.succ_ne_zero, if_false]; rfl, by rw [f3]; simp, fun k hk => ?_, f1⟩
  rw [f2 k (by omega)]
  exact heap_alloc_old w.drew _ k hk

theorem run_stringToBytes {P : Program} (w : World) (el : TypeId) (s : List UInt8) :
    ∃ cap w', (Conv.stringToBytes el ⟨s.toArray⟩).run P w = .ok (.slice (some ⟨w.heap.size, 0, none⟩) s.length cap) w' ∧ s.length ≤ cap ∧ (s.length ≤ maxLen → cap ≤ maxLen) ∧
      Grow (.cells (bytesV s ++ List.replicate (cap - s.length) (Value.int .u8 0)).toArray el (cap, cap + 1)) w w' := by
  have hsz : (ByteArray.mk s.toArray).size = s.length := by simp [ByteArray.size]
  have hcge : s.length ≤ grownCap w s.length 0 el := grownCap_ge w s.length 0 el
  have hcle := grownCap_le_maxLen w s.length 0 el
  have hbl : (bytesV s).length = s.length := by simp [bytesV]
  generalize hcap : grownCap w s.length 0 el = cap at hcge hcle
  have hcs : (bytesV s ++ List.replicate (cap - s.length) (Value.int .u8 0)).toArray.size = cap := by simp [hbl]; omega
  have hg := grow_frozen w (bytesV s ++ List.replicate (cap - s.length) (Value.int .u8 0)).toArray el
  rw [hcs] at hg
  refine ⟨cap, _, ?_, hcge, hcle, hg⟩
  have helems : (ByteArray.mk s.toArray).data.map (fun b => Value.int .u8 b.toNat) ++ Array.replicate (cap - s.length) (Value.int .u8 0) = (bytesV s ++ List.replicate (cap - s.length) (Value.int .u8 0)).toArray := by
    simp [bytesV]
  have hsh : (w.drew.alloc (.cells (bytesV s ++ List.replicate (cap - s.length) (Value.int .u8 0)).toArray el)).shape? w.heap.size = some (el, cap) := by
    simp only [World.shape?]
    rw [show (w.drew.alloc (.cells (bytesV s ++ List.replicate (cap - s.length) (Value.int .u8 0)).toArray el)).heap[w.heap.size]? = some (.cells (bytesV s ++ List.replicate (cap - s.length) (Value.int .u8 0)).toArray el) from heap_alloc_new w.drew _]
    simp only [hcs]
  have hgc : (Question.appendCap s.length 0 el).cut (w.tape w.drawn (Question.appendCap s.length 0 el)) = cap := hcap
  simp only [Conv.stringToBytes, hsz, Sem.run_bind, run_choose, Question.forced, Bool.false_eq_true, if_false, Result.andThen_ok, hgc, helems, newRow, run_newObj, Sem.run_pure, markStringish,
    World.drew_eq, World.alloc_eq, World.size_drew, run_shape, hsh, run_freeze]

theorem efBytes_ok {P L id src dst x v' id' blk p w0 X ok φ w vx} (h : efBytes P L id src dst x = some (v', id', blk, p)) (hp : p) (hh : HeapOK w ok L φ) (hw0 : w0.heap.size ≤ w.heap.size)
    (hx : R w ok L φ x vx) : EffOK P w0 X (convert src dst vx) L ok φ w v' id' blk := by
  unfold efBytes at h
  split at h
  · rename_i el s hs hd hL
    split at h <;> simp only [Option.some.injEq, reduceCtorEq, Prod.mk.injEq] at h
    rename_i hel
    obtain ⟨rfl, rfl, rfl, rfl⟩ := h
    obtain rfl : vx = .string ⟨s.toArray⟩ := by cases hx with | pure _ _ h => cases h; rfl
    obtain ⟨cap, w', hrun, hcge, hcle, hgrow⟩ := run_stringToBytes (P := P) w el s
    have hbl : (bytesV s).length = s.length := by simp [bytesV]
    have hre : RE w ok L φ 1 (s.map byteAV) (bytesV s) := by
      refine RC.re1 ⟨by simp [bytesV], fun i v hv => ?_, fun i a v ha hv => ?_⟩ (fun x hx => ?_)
      · simp only [bytesV, List.getElem?_map, Option.map_eq_some_iff] at hv
        obtain ⟨b, _, rfl⟩ := hv; rfl
      · simp only [bytesV, List.getElem?_map, Option.map_eq_some_iff] at ha hv
        obtain ⟨b, hb, rfl⟩ := ha
        obtain ⟨b', hb', rfl⟩ := hv
        rw [hb] at hb'; cases hb'
        exact .pure _ _ (.int _ _)
      · obtain ⟨b, _, rfl⟩ := List.mem_map.1 hx; rfl
    have hext := Ext.new (w0 := w0) (X := X) (blk := .cells 1 false (byteAV 0) (s.map byteAV)) hh hw0 hL hgrow
      (.inl ⟨1, false, _, _, bytesV s, List.replicate (cap - s.length) (.int .u8 0), el, cap, cap + 1, rfl, rfl, fun k hk => by
        simp only [List.length_append, hbl, List.length_replicate] at hk; omega, hre⟩)
    refine ⟨.slice (some ⟨w.heap.size, 0, none⟩) s.length cap, w', _, ?_, hext, ?_⟩
    · simp only [convert, Sem.run_bind, run_underlying hs, run_underlying hd, Result.andThen_ok, run_underlying hel, hrun]
    · refine .ref id 0 s.length s.length _ _ _ 1 false (byteAV 0) (s.map byteAV) (by simp [updL]) (by simp) (fun _ => ⟨by omega, .inr ⟨w.heap.size, cap, _, by simp [updP], rfl, hcge, hcle (by simpa [maxLen, maxInt] using hp), .inr ⟨by simp, _, el, _, hgrow.new, by simp [hbl]; omega⟩⟩⟩)
  · simp at h

/-! ### octets made a text -/
def isU8 : AV → Bool
  | .int .u8 _ => true
  | _ => false
def toByte : AV → UInt8
  | .int _ n => UInt8.ofNat n.toNat
  | _ => 0

/-- The elements that a slice holds. -/
def elemsA (L : Nat → Option Blk) (x : AV) : Option (Nat × List AV × Prop) :=
  match x with
  | .list sz l => some (sz, l, True)
  | .ref id off len hw => match L id with
    | some (.cells sz _ _ c) => some (sz, (c.drop off).take len, hw = c.length)
    | _ => none
  | _ => none

/-- What a slice that can be read holds. -/
theorem elems_ok {w ok L φ x v sz l p} (h : elemsA L x = some (sz, l, p)) (hp : p) (hh : HeapOK w ok L φ) (hx : R w ok L φ x v) :
    ∃ a n cap, v = .slice a n cap ∧ n = l.length ∧ ∃ vs : List Value, RE w ok L φ sz l vs ∧
      ((l = [] ∧ a = none) ∨ (∃ pa, a = some pa ∧ (l = [] ∨ ∃ b o, pa = ⟨b, o, none⟩ ∧ ∀ (j : Nat) (u : Value), vs[j]? = some u → w.cell? ⟨b, o + j, none⟩ = some u))) := by
  unfold elemsA at h
  split at h
  · rename_i sz' l'
    simp only [Option.some.injEq, Prod.mk.injEq] at h
    obtain ⟨rfl, rfl, rfl⟩ := h
    obtain ⟨a, cap, rfl, hcap, hm, hcase⟩ := hx.listInv.listInv
    rcases hcase with rfl | ⟨b, off, cv, rfl, hs, h1, h2⟩
    · refine ⟨a, 0, cap, rfl, rfl, [], RE.nil .., ?_⟩
      cases a with
      | none => exact .inl ⟨rfl, rfl⟩
      | some pa => exact .inr ⟨pa, rfl, .inl rfl⟩
    · let vs : List Value := (List.range (l'.length * sz')).map fun k => cv (k / sz') (k % sz')
      have hvs : ∀ i j, i < l'.length → j < sz' → vs[i * sz' + j]? = some (cv i j) := by
        intro i j hi hj
        have hlt := idx_lt hi hj
        simp only [vs, List.getElem?_map, List.getElem?_range hlt, Option.map_some]
        rw [Nat.mul_comm i, Nat.mul_add_div (by omega), Nat.div_eq_of_lt hj, Nat.mul_add_mod, Nat.mod_eq_of_lt hj, Nat.add_zero]
      refine ⟨_, _, cap, rfl, rfl, vs, ⟨by simp [vs], hs, fun i x j y hx hy => ?_⟩, .inr ⟨_, rfl, .inr ⟨b, off, rfl, fun k u hk => ?_⟩⟩⟩
      · have hi : i < l'.length := (List.getElem?_eq_some_iff.1 hx).1
        have hj : j < sz' := by rw [← hs i x hx]; exact (List.getElem?_eq_some_iff.1 hy).1
        exact ⟨cv i j, hvs i j hi hj, (h1 i x j y hx hy).2.2, .pure _ _ (h2 i x j y hx hy)⟩
      · have hk' : k < l'.length * sz' := by have := (List.getElem?_eq_some_iff.1 hk).1; simpa [vs] using this
        have hsz : 0 < sz' := by rcases Nat.eq_zero_or_pos sz' with h0 | h0; simp [h0] at hk'; exact h0
        have hi : k / sz' < l'.length := by rw [Nat.div_lt_iff_lt_mul hsz]; exact hk'
        have hj : k % sz' < sz' := Nat.mod_lt _ hsz
        have hki : k = k / sz' * sz' + k % sz' := by rw [Nat.mul_comm]; exact (Nat.div_add_mod k sz').symm
        rw [hki, hvs _ _ hi hj] at hk
        cases hk
        have hcl := hs _ _ (List.getElem?_eq_getElem hi)
        have := (h1 _ _ _ _ (List.getElem?_eq_getElem hi) (List.getElem?_eq_getElem (by omega : k % sz' < (l'[k / sz']).cells.length))).2.1
        rw [Nat.add_assoc, ← hki] at this
        exact this
  · rename_i id off len hw
    split at h <;> simp only [Option.some.injEq, reduceCtorEq, Prod.mk.injEq] at h
    rename_i sz' ro d c hL
    obtain ⟨rfl, rfl, rfl⟩ := h
    obtain ⟨sz1, ro', d', c', hL', hle, ⟨a, n, m, rfl⟩, hr⟩ := hx.refInv
    rw [hL] at hL'; cases hL'
    obtain ⟨h1, h2⟩ := hr hp
    have hlen : ((c.drop off).take len).length = len := by simp; omega
    rcases h2 with ⟨h2, a0, h3⟩ | ⟨b, cap, pa, h2, h3, h4, h5, h6⟩
    · cases h3
      have : ((c.drop off).take len) = [] := List.eq_nil_of_length_eq_zero (by rw [hlen]; omega)
      rw [this]
      refine ⟨a, 0, 0, rfl, rfl, [], RE.nil .., ?_⟩
      cases a with
      | none => exact .inl ⟨rfl, rfl⟩
      | some pa => exact .inr ⟨pa, rfl, .inl rfl⟩
    · cases h3
      refine ⟨_, _, _, rfl, hlen.symm, ?_⟩
      rcases hh.live h2 with ⟨sz1, ro1, d1, c1, vs, rest, e, lo', hi', g1, g2, g3, g4⟩ | ⟨blk1, o1, g1, _, ho1⟩
      · rw [hL] at g1; cases g1
        refine ⟨_, g4.sub off len, .inr ⟨pa, rfl, ?_⟩⟩
        rcases h6 with h6 | ⟨rfl, h7⟩
        · left
          exact List.eq_nil_of_length_eq_zero (by rw [hlen]; omega)
        · right
          refine ⟨b, off * sz', rfl, fun k u hk => ?_⟩
          rw [cell_blk g2]
          rw [List.getElem?_take] at hk
          split at hk
          · rw [List.getElem?_drop] at hk
            have hlt := (List.getElem?_eq_some_iff.1 hk).1
            simp [List.getElem?_append_left hlt, hk]
          · simp at hk
      · rw [hL] at g1; cases g1; cases ho1
  · simp at h

def rdText (P : Program) (L : Nat → Option Blk) (src dst : TypeId) (x : AV) : Option (AV × Prop) :=
  match P.underlying src, P.underlying dst with
  | some (.slice el), some .string => match P.underlying el with
    | some (.int .u8) => match x with
      | .nils => some (.str [], True)
      | x => match elemsA L x with
        | some (sz, l, q) => some (.str (l.map toByte), q ∧ sz = 1 ∧ l.all isU8 = true)
        | none => none
    | _ => none
  | _, _ => none

theorem rdText_ok {P src dst x v' p w ok L φ vx} (h : rdText P L src dst x = some (v', p)) (hp : p) (hh : HeapOK w ok L φ) (hx : R w ok L φ x vx) :
    ∃ v, (convert src dst vx).run P w = .ok v w ∧ R w ok L φ v' v := by
  unfold rdText at h
  split at h
  · rename_i el hs hd
    split at h
    · rename_i hel
      split at h
      · simp only [Option.some.injEq, Prod.mk.injEq] at h
        obtain ⟨rfl, rfl⟩ := h
        obtain rfl : vx = .slice none 0 0 := by cases hx with | pure _ _ h => cases h; rfl
        refine ⟨.string .empty, ?_, .pure _ _ (.str [])⟩
        rw [run_convert_bytes_string w src dst el _ _ _ hs hel hd]
        simp [Conv.bytesToString]
      · rename_i y hne
        split at h <;> simp only [Option.some.injEq, reduceCtorEq, Prod.mk.injEq] at h
        rename_i sz l q he
        obtain ⟨rfl, rfl⟩ := h
        obtain ⟨hq, rfl, hall⟩ := hp
        obtain ⟨a, n, cap, rfl, rfl, vs, hre, hcase⟩ := elems_ok he hq hh hx
        have hu : ∀ x ∈ l, ∃ m : Int, x = .int .u8 m := fun x hx => by
          have := List.all_eq_true.1 hall x hx
          unfold isU8 at this
          split at this
          · exact ⟨_, rfl⟩
          · simp at this
        have hvl : vs.length = l.length := by have := hre.1; omega
        let ns : List Int := l.map fun x => match x with | .int _ m => m | _ => 0
        have hvs : vs = ns.map (Value.int .u8) := by
          apply List.ext_getElem?
          intro i
          simp only [ns, List.map_map, List.getElem?_map]
          cases hi : l[i]? with
          | none =>
            have : l.length ≤ i := List.getElem?_eq_none_iff.1 hi
            simp [List.getElem?_eq_none_iff.2 (show vs.length ≤ i by omega)]
          | some x =>
            obtain ⟨m, rfl⟩ := hu x (List.mem_of_getElem? hi)
            obtain ⟨v, h1, _, h3⟩ := hre.2.2 i _ 0 (.int .u8 m) hi rfl
            simp only [Nat.mul_one, Nat.add_zero] at h1
            obtain rfl : v = .int .u8 m := by cases h3 with | pure _ _ h => cases h; rfl
            simp [h1]
        have hfold : ∀ (ms : List Int) (acc : List UInt8), ms.foldl (fun (r : ByteArray) n => r.push (UInt8.ofNat n.toNat)) ⟨acc.toArray⟩ = ⟨(acc ++ ms.map fun n => UInt8.ofNat n.toNat).toArray⟩ := by
          intro ms
          induction ms with
          | nil => intro acc; simp
          | cons m ms ih =>
            intro acc
            simp only [List.foldl_cons, List.map_cons]
            have : (ByteArray.mk acc.toArray).push (UInt8.ofNat m.toNat) = ⟨(acc ++ [UInt8.ofNat m.toNat]).toArray⟩ := by
              apply ByteArray.ext; simp
            rw [this, ih]
            simp
        have htext : (ns.foldl (fun (r : ByteArray) n => r.push (UInt8.ofNat n.toNat)) ByteArray.empty) = ⟨(l.map toByte).toArray⟩ := by
          have := hfold ns []
          simp only [List.nil_append] at this
          rw [show ByteArray.empty = ⟨([] : List UInt8).toArray⟩ from rfl, this]
          simp only [ns, List.map_map]
          congr 2
          apply List.map_congr_left
          intro x hx
          obtain ⟨m, rfl⟩ := hu x hx
          rfl
        refine ⟨.string ⟨(l.map toByte).toArray⟩, ?_, .pure _ _ (.str _)⟩
        rw [run_convert_bytes_string w src dst el _ _ _ hs hel hd]
        rcases hcase with ⟨rfl, rfl⟩ | ⟨pa, rfl, hc⟩
        · simp [Conv.bytesToString]; rfl
        · rw [← htext]
          refine run_bytesToString w pa _ cap ns ?_
          rcases hc with rfl | ⟨b, o, rfl, hcell⟩
          · simp [loadCells, loadCellsFrom, ns]
          · have := run_loadCells' (P := P) vs hcell
            rw [hvl, hvs] at this
            exact this
    · simp at h
  · simp at h
end Go.Abs
set_option linter.unusedVariables false
set_option linter.unusedSimpArgs false
namespace Go.Abs

/-! ### an iterator over a text -/
def efRange (P : Program) (L : Nat → Option Blk) (id : Nat) (t : TypeId) (x : AV) : Option (AV × Nat × Blk × Prop) :=
  match P.underlying t, L id, x with
  | some .string, none, .str s => some (.it id, id, .iter s 0, True)
  | _, _, _ => none

theorem efRange_ok {P L id t x v' id' blk p w0 X ok φ w vx} (h : efRange P L id t x = some (v', id', blk, p)) (hp : p) (hh : HeapOK w ok L φ) (hw0 : w0.heap.size ≤ w.heap.size)
    (hx : R w ok L φ x vx) : EffOK P w0 X (Instr.range t vx) L ok φ w v' id' blk := by
  unfold efRange at h
  split at h <;> simp only [Option.some.injEq, reduceCtorEq, Prod.mk.injEq] at h
  rename_i s hu hL
  obtain ⟨rfl, rfl, rfl, rfl⟩ := h
  obtain rfl : vx = .string ⟨s.toArray⟩ := by cases hx with | pure _ _ h => cases h; rfl
  have hext := Ext.new (w0 := w0) (X := X) (blk := .iter s 0) hh hw0 hL (Grow.alloc w (.stringIter ⟨s.toArray⟩ 0)) (.inr (.iter s 0))
  exact ⟨.pointer (some ⟨w.heap.size, 0, none⟩), _, _, by simp [Instr.range, run_underlying hu], hext, .it id s 0 w.heap.size (by simp [updL]) (by simp [updP])⟩

def runeAt (s : List UInt8) (pos : Nat) : Int × Nat := let r := Utf8.decode ⟨s.toArray⟩ pos; (r.1, r.2)

def efNext (L : Nat → Option Blk) (x : AV) : Option (AV × Nat × Blk × Prop) :=
  match x with
  | .it id => match L id with
    | some (.iter s pos) => some (.nxt (decide (pos < s.length)) pos (runeAt s pos).1, id, .iter s (if pos < s.length then pos + (runeAt s pos).2 else pos), True)
    | _ => none
  | _ => none

theorem efNext_ok {P L x v' id blk p w0 X ok φ w vx ty} (h : efNext L x = some (v', id, blk, p)) (hp : p) (hh : HeapOK w ok L φ) (hx : R w ok L φ x vx) :
    EffOK P w0 X (Instr.next vx true ty) L ok φ w v' id blk := by
  unfold efNext at h
  split at h
  · rename_i id'
    split at h <;> simp only [Option.some.injEq, reduceCtorEq, Prod.mk.injEq] at h
    rename_i s pos hL
    obtain ⟨rfl, rfl, rfl, rfl⟩ := h
    obtain ⟨s', pos', b, hL', hb, rfl⟩ : ∃ s' pos' b, L id' = some (.iter s' pos') ∧ φ id' = some b ∧ vx = .pointer (some ⟨b, 0, none⟩) := by
      cases hx with
      | pure _ _ h => cases h
      | it _ s pos b hL hφ => exact ⟨s, pos, b, hL, hφ, rfl⟩
    rw [hL] at hL'; cases hL'
    rcases hh.live hb with ⟨_, _, _, _, _, _, _, _, _, h1, _⟩ | ⟨blk1, o1, h1, h2, h3⟩
    · rw [hL] at h1; cases h1
    · rw [hL] at h1; cases h1; cases h3
      have hlt : b < w.heap.size := hh.lt hb
      have hsz : (ByteArray.mk s.toArray).size = s.length := by simp [ByteArray.size]
      have hget : (getObj b).run P w = .ok (.stringIter ⟨s.toArray⟩ pos) w := by simp [getObj, Sem.run, h2]
      by_cases hp' : pos < s.length
      · let w' : World := { w with heap := w.heap.setIfInBounds b (.stringIter ⟨s.toArray⟩ (pos + (runeAt s pos).2)) }
        have hset : (setObj b (.stringIter ⟨s.toArray⟩ (pos + (runeAt s pos).2))).run P w = .ok () w' := by simp [setObj, Sem.run, h2, w']
        have hwr : Wr b w w' := ⟨rfl, rfl, rfl, by simp [w'], fun k hk => by simp [w', Array.getElem?_setIfInBounds_ne (Ne.symm hk)]⟩
        have hnew : w'.heap[b]? = some (.stringIter ⟨s.toArray⟩ (pos + (runeAt s pos).2)) := by simp [w', hlt]
        refine ⟨.tuple #[.bool true, .int .i64 pos, .int .i32 (runeAt s pos).1], w', φ, ?_, ?_, ?_⟩
        · simp only [Instr.next, Sem.run_bind, hget, Result.andThen_ok, hsz, if_pos hp']
          rw [show (Utf8.decode ⟨s.toArray⟩ pos).2 = (runeAt s pos).2 from rfl, hset]
          rfl
        · rw [if_pos hp']
          exact Ext.wrote hh hb hwr (.inr ⟨_, _, hL, rfl, hnew, .iter _ _⟩)
        · rw [decide_eq_true hp']; exact .pure _ _ (.nxtT _ _)
      · refine ⟨.tuple #[.bool false], w, φ, ?_, ?_, ?_⟩
        · simp only [Instr.next, Sem.run_bind, hget, Result.andThen_ok, hsz, if_neg hp', Sem.run_pure]
        · rw [if_neg hp']
          exact Ext.wrote hh hb (Wr.refl b w) (.inr ⟨_, _, hL, rfl, h2, .iter _ _⟩)
        · rw [decide_eq_false hp']; exact .pure _ _ (.nxtF _ _)
  · simp at h

/-! ### append -/
/-- A block that grew in place. -/
theorem Ext.grew {w0 X L ok φ w w' id b sz ro d c l vs0 vs rest rest' e lo hi} (h : HeapOK w ok L φ) (hL : L id = some (.cells sz ro d c)) (hb : φ id = some b) (hw : Wr b w w')
    (hold : w.heap[b]? = some (.cells (vs0 ++ rest).toArray e (lo, hi))) (hnew : w'.heap[b]? = some (.cells (vs0 ++ (vs ++ rest')).toArray e (lo, hi)))
    (hlen : (vs ++ rest').length = rest.length) (hfz : ∀ k, k < (vs0 ++ rest).length → ¬ (lo ≤ k ∧ k < hi))
    (hre : RE w ok L φ sz c vs0) (hrl : RE w ok L φ sz l vs) : Ext w0 X L ok φ w (updL L id (.cells sz ro d (c ++ l))) ok φ w' := by
  have hsame : ∀ k o, ok k o → w'.cell? ⟨k, o, none⟩ = w.cell? ⟨k, o, none⟩ := fun k o hk => by
    by_cases e1 : k = b
    · subst e1
      obtain ⟨sz1, d1, c1, h1, h2⟩ := (h.shut k o hk).2 id hb
      rw [hL] at h1; cases h1
      rw [cell_blk hnew, cell_blk hold]
      have : o < vs0.length := by rw [hre.1]; exact h2
      simp [List.getElem?_append_left this]
    · exact World.cell?_of_block (a := ⟨k, o, none⟩) (hw.block k e1)
  have hother : ∀ i k, φ i = some k → i ≠ id → k ≠ b := fun i k hi hne e => hne (h.inj i id b (e ▸ hi) hb)
  have hcap : ∀ k n, CapOK w k n → CapOK w' k n := fun k n hk => by
    by_cases e1 : k = b
    · subst e1
      obtain ⟨cur, e', fz, h1, h2⟩ := hk
      rw [hold] at h1; cases h1
      exact ⟨_, _, _, hnew, by simp only [List.size_toArray, List.length_append] at h2 hlen ⊢; omega⟩
    · exact capOK_of_heap (hw.block k e1) hk
  have keep : Keeps w ok L φ w' ok (updL L id (.cells sz ro d (c ++ l))) φ := by
    refine ⟨fun _ _ h => h, hsame, fun i sz1 ro1 d1 c1 hi => ?_, fun i bb hi hcc => ?_⟩
    · by_cases e1 : id = i
      · subst e1
        rw [hL] at hi; cases hi
        exact ⟨ro, d, c ++ l, by simp [updL], by simp, fun _ => ⟨rfl, fun b' n _ hk => hcap b' n hk⟩⟩
      · exact ⟨ro1, d1, c1, by simp [updL, e1, hi], Nat.le_refl _, fun _ => ⟨rfl, fun b' n _ hk => hcap b' n hk⟩⟩
    · have e1 : id ≠ i := fun e1 => by subst e1; rw [hL] at hi; cases hi; simp [Blk.isC] at hcc
      exact ⟨bb, by simp [updL, e1, hi], Blk.same_refl hcc, rfl⟩
  have hk := fun a v hr => R.keep (a := a) (v := v) keep hr
  refine ⟨keep, ⟨?_, ?_, ?_, h.inj, ?_⟩, ?_, fun ho _ => ho, fun _ _ _ _ h => .inl h⟩
  · intro i sz1 ro1 d1 c1 hii
    by_cases e1 : id = i
    · subst e1
      simp only [updL, if_true, Option.some.injEq, Blk.cells.injEq] at hii
      obtain ⟨rfl, rfl, rfl, rfl⟩ := hii
      refine .inr ⟨b, vs0 ++ vs, rest', e, lo, hi, hb, by rw [hnew, List.append_assoc], fun k hk' => hfz k ?_, (hre.append hrl).keep hk⟩
      simp only [List.length_append] at hk' hlen ⊢; omega
    · simp only [updL, if_neg e1] at hii
      rcases h.blk i sz1 ro1 d1 c1 hii with h1 | ⟨b', vs1, rest1, ee, lo1, hi1, h1, h2, h3, h4⟩
      · exact .inl h1
      · exact .inr ⟨b', vs1, rest1, ee, lo1, hi1, h1, by rw [hw.block b' (hother i b' h1 (Ne.symm e1))]; exact h2, h3, h4.keep hk⟩
  · intro i bb hi hcc
    have e1 : id ≠ i := fun e1 => by subst e1; simp only [updL, if_true, Option.some.injEq] at hi; subst hi; simp [Blk.isC] at hcc
    simp only [updL, if_neg e1] at hi
    obtain ⟨b', o', h1, h2, h3⟩ := h.obj i bb hi hcc
    exact ⟨b', o', h1, by rw [hw.block b' (hother i b' h1 (Ne.symm e1))]; exact h2, h3.keep hk⟩
  · intro i hi
    by_cases e1 : id = i
    · subst e1; simp [updL] at hi
    · simp only [updL, if_neg e1] at hi; exact h.dom i hi
  · intro k o hk'
    obtain ⟨h1, h2⟩ := h.shut k o hk'
    refine ⟨by rw [hw.size]; exact h1, fun i hi => ?_⟩
    by_cases e1 : id = i
    · subst e1
      obtain ⟨sz1, d1, c1, h3, h4⟩ := h2 id hi
      rw [hL] at h3; cases h3
      refine ⟨sz, d, c ++ l, by simp [updL], ?_⟩
      rw [List.length_append, Nat.add_mul]; omega
    · simp only [updL, if_neg e1]; exact h2 i hi
  · intro ho hf
    refine ⟨hw.os.trans hf.os, hw.tape.trans hf.tape, hw.output.trans hf.output, by rw [hw.size]; exact hf.size, fun k hk hx => ?_⟩
    have hne : k ≠ b := fun e => by
      subst e
      rcases ho id k hb with h1 | h1
      · exact hx h1
      · omega
    rw [hw.block k hne]
    exact hf.block k hk hx

/-- A block that grew, and moved. -/
theorem Ext.moved {w0 X L ok φ w w' id sz ro d c c' vs rest e lo hi} (h : HeapOK w ok L φ) (hw0 : w0.heap.size ≤ w.heap.size) (hL : L id = some (.cells sz ro d c)) (hlt : c.length < c'.length)
    (hg : Grow (.cells (vs ++ rest).toArray e (lo, hi)) w w') (hfz : ∀ k, k < (vs ++ rest).length → ¬ (lo ≤ k ∧ k < hi)) (hre : RE w ok L φ sz c' vs) :
    Ext w0 X L ok φ w (updL L id (.cells sz ro d c')) ok (updP φ id (some w.heap.size)) w' := by
  have hc : ∀ b o, ok b o → w'.cell? ⟨b, o, none⟩ = w.cell? ⟨b, o, none⟩ := fun b o hb =>
    World.cell?_of_block (a := ⟨b, o, none⟩) (hg.block b (h.shut b o hb).1)
  have keep : Keeps w ok L φ w' ok (updL L id (.cells sz ro d c')) (updP φ id (some w.heap.size)) := by
    refine ⟨fun _ _ h => h, hc, fun i sz1 ro1 d1 c1 hi' => ?_, fun i bb hi' hcc => ?_⟩
    · by_cases e1 : id = i
      · subst e1
        rw [hL] at hi'; cases hi'
        exact ⟨ro, d, c', by simp [updL], by omega, fun e2 => by omega⟩
      · exact ⟨ro1, d1, c1, by simp [updL, e1, hi'], Nat.le_refl _, fun _ => ⟨by simp [updP, e1], fun b n hb hcap => capOK_of_heap (hg.block b (capOK_lt hcap)) hcap⟩⟩
    · have e1 : id ≠ i := fun e1 => by subst e1; rw [hL] at hi'; cases hi'; simp [Blk.isC] at hcc
      exact ⟨bb, by simp [updL, e1, hi'], Blk.same_refl hcc, by simp [updP, e1]⟩
  have hk := fun a v hr => R.keep (a := a) (v := v) keep hr
  refine ⟨keep, ⟨?_, ?_, ?_, ?_, ?_⟩, ?_, ?_, fun _ _ _ _ h => .inl h⟩
  · intro i sz1 ro1 d1 c1 hi'
    by_cases e1 : id = i
    · subst e1
      simp only [updL, if_true, Option.some.injEq, Blk.cells.injEq] at hi'
      obtain ⟨rfl, rfl, rfl, rfl⟩ := hi'
      exact .inr ⟨w.heap.size, vs, rest, e, lo, hi, by simp [updP], hg.new, hfz, hre.keep hk⟩
    · simp only [updL, if_neg e1] at hi'
      simp only [updP, if_neg e1]
      rcases h.blk i sz1 ro1 d1 c1 hi' with h1 | ⟨b, vs1, rest1, ee, lo1, hi1, h1, h2, h3, h4⟩
      · exact .inl h1
      · exact .inr ⟨b, vs1, rest1, ee, lo1, hi1, h1, by rw [hg.block b (h.lt h1)]; exact h2, h3, h4.keep hk⟩
  · intro i bb hi' hcc
    have e1 : id ≠ i := fun e1 => by subst e1; simp only [updL, if_true, Option.some.injEq] at hi'; subst hi'; simp [Blk.isC] at hcc
    simp only [updL, if_neg e1] at hi'
    obtain ⟨b, o', h1, h2, h3⟩ := h.obj i bb hi' hcc
    exact ⟨b, o', by simp [updP, e1, h1], by rw [hg.block b (h.lt h1)]; exact h2, h3.keep hk⟩
  · intro i hi'
    by_cases e1 : id = i
    · subst e1; simp [updL] at hi'
    · simp only [updL, if_neg e1] at hi'; simp [updP, e1, h.dom i hi']
  · intro i j b hi' hj
    simp only [updP] at hi' hj
    split at hi' <;> split at hj
    · omega
    · cases hi'; exact absurd (h.lt hj) (by omega)
    · cases hj; exact absurd (h.lt hi') (by omega)
    · exact h.inj i j b hi' hj
  · intro b o hb
    obtain ⟨h1, h2⟩ := h.shut b o hb
    refine ⟨by rw [hg.size]; omega, fun i hi' => ?_⟩
    simp only [updP] at hi'
    split at hi'
    · cases hi'; omega
    · rename_i e1; simp only [updL, if_neg e1]; exact h2 i hi'
  · intro _ hf
    exact hf.trans (X := X) (Y := fun _ => False) ⟨hg.os, hg.tape, hg.output, by rw [hg.size]; omega, fun k hk _ => hg.block k hk⟩ (fun _ h => h.elim)
  · intro ho _ i b hi'
    simp only [updP] at hi'
    split at hi'
    · cases hi'; exact .inr hw0
    · exact ho i b hi'

/-- A slice that holds nothing, and has no block. -/
theorem Ext.virt {w0 X L ok φ w id sz d} (h : HeapOK w ok L φ) (hid : L id = none) :
    Ext w0 X L ok φ w (updL L id (.cells sz false d [])) ok φ w := by
  have hne : ∀ i blk', L i = some blk' → id ≠ i := fun i blk' hi e => by subst e; rw [hid] at hi; cases hi
  have keep : Keeps w ok L φ w ok (updL L id (.cells sz false d [])) φ :=
    ⟨fun _ _ h => h, fun _ _ _ => rfl, fun i sz1 ro1 d1 c1 hi => ⟨ro1, d1, c1, by simp [updL, hne i _ hi, hi], Nat.le_refl _, fun _ => ⟨rfl, fun _ _ _ h => h⟩⟩,
      fun i bb hi hcc => ⟨bb, by simp [updL, hne i _ hi, hi], Blk.same_refl hcc, rfl⟩⟩
  have hk := fun a v hr => R.keep (a := a) (v := v) keep hr
  refine ⟨keep, ⟨?_, ?_, ?_, h.inj, ?_⟩, fun _ hf => hf, fun ho _ => ho, fun _ _ _ _ h => .inl h⟩
  · intro i sz1 ro1 d1 c1 hi
    by_cases e1 : id = i
    · subst e1
      simp only [updL, if_true, Option.some.injEq, Blk.cells.injEq] at hi
      exact .inl ⟨h.dom id hid, hi.2.2.2.symm⟩
    · simp only [updL, if_neg e1] at hi
      rcases h.blk i sz1 ro1 d1 c1 hi with h1 | ⟨b', vs1, rest1, ee, lo1, hi1, h1, h2, h3, h4⟩
      · exact .inl h1
      · exact .inr ⟨b', vs1, rest1, ee, lo1, hi1, h1, h2, h3, h4.keep hk⟩
  · intro i bb hi hcc
    have e1 : id ≠ i := fun e1 => by subst e1; simp only [updL, if_true, Option.some.injEq] at hi; subst hi; simp [Blk.isC] at hcc
    simp only [updL, if_neg e1] at hi
    obtain ⟨b', o', h1, h2, h3⟩ := h.obj i bb hi hcc
    exact ⟨b', o', h1, h2, h3.keep hk⟩
  · intro i hi
    by_cases e1 : id = i
    · subst e1; simp [updL] at hi
    · simp only [updL, if_neg e1] at hi; exact h.dom i hi
  · intro b o hb
    obtain ⟨h1, h2⟩ := h.shut b o hb
    refine ⟨h1, fun i hi => ?_⟩
    have e1 : id ≠ i := fun e1 => by subst e1; rw [h.dom id hid] at hi; cases hi
    simp only [updL, if_neg e1]; exact h2 i hi
end Go.Abs
