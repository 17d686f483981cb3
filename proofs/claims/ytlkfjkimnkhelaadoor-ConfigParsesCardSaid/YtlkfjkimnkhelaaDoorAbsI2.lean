/- append and copy. No condition. -/
import Derived.Test.YtlkfjkimnkhelaaDoorAbsH
set_option linter.unusedVariables false
set_option linter.unusedSimpArgs false
namespace Go.Abs

def srcA (L : Nat → Option Blk) (sz : Nat) (x : AV) : Option (List AV × Prop) :=
  match x with
  | .nils => some ([], True)
  | .nil0 => some ([], True)
  | .str s => some (s.map byteAV, sz = 1)
  | x => match elemsA L x with
    | some (sz', l, q) => some (l, q ∧ sz' = sz)
    | none => none

theorem RE.bytes (w : World) (ok : Nat → Nat → Prop) (L : Nat → Option Blk) (φ : Nat → Option Nat) (s : List UInt8) : RE w ok L φ 1 (s.map byteAV) (bytesV s) := by
  refine RC.re1 ⟨by simp [bytesV], fun i v hv => ?_, fun i a v ha hv => ?_⟩ (fun x hx => ?_)
  · simp only [bytesV, List.getElem?_map, Option.map_eq_some_iff] at hv
    obtain ⟨b, _, rfl⟩ := hv; rfl
  · simp only [bytesV, List.getElem?_map, Option.map_eq_some_iff] at ha hv
    obtain ⟨b, hb, rfl⟩ := ha
    obtain ⟨b', hb', rfl⟩ := hv
    rw [hb] at hb'; cases hb'
    exact .pure _ _ (.int _ _)
  · obtain ⟨b, _, rfl⟩ := List.mem_map.1 hx; rfl

theorem cell_of_heap {w w' : World} (h : w'.heap = w.heap) (a : Addr) : w'.cell? a = w.cell? a := by simp [World.cell?, h]

theorem src_ok {P L sz x l q w ok φ v} (h : srcA L sz x = some (l, q)) (hq : q) (hh : HeapOK w ok L φ) (hx : R w ok L φ x v) :
    ∃ vs, RE w ok L φ sz l vs ∧ ∀ w', w'.heap = w.heap → (Builtin.lenOf v).run P w' = .ok l.length w' ∧ ∀ m, m ≤ l.length → (Builtin.firstCells sz m v).run P w' = .ok (vs.take (m * sz)).toArray w' := by
  unfold srcA at h
  split at h
  · simp only [Option.some.injEq, Prod.mk.injEq] at h
    obtain ⟨rfl, rfl⟩ := h
    obtain rfl : v = .slice none 0 0 := by cases hx with | pure _ _ h => cases h; rfl
    exact ⟨[], RE.nil .., fun w' _ => ⟨by simp [Builtin.lenOf], fun m hm => by simp [Builtin.firstCells]⟩⟩
  · simp only [Option.some.injEq, Prod.mk.injEq] at h
    obtain ⟨rfl, rfl⟩ := h
    obtain ⟨a0, rfl⟩ : ∃ a0, v = .slice a0 0 0 := by cases hx with | pure _ _ h => cases h; exact ⟨_, rfl⟩
    refine ⟨[], RE.nil .., fun w' _ => ⟨by simp [Builtin.lenOf], fun m hm => ?_⟩⟩
    have hm0 : m = 0 := by simpa using hm
    subst hm0
    cases a0 <;> simp [Builtin.firstCells, loadCells, loadCellsFrom]
  · rename_i s
    simp only [Option.some.injEq, Prod.mk.injEq] at h
    obtain ⟨rfl, rfl⟩ := h
    subst hq
    obtain rfl : v = .string ⟨s.toArray⟩ := by cases hx with | pure _ _ h => cases h; rfl
    refine ⟨bytesV s, RE.bytes .., fun w' _ => ⟨by simp [Builtin.lenOf, ByteArray.size], fun m hm => ?_⟩⟩
    have e : (ByteArray.mk s.toArray).extract 0 m = ⟨(s.take m).toArray⟩ := by
      apply ByteArray.ext; simp [ByteArray.data_extract, List.extract_eq_take_drop]
    simp [Builtin.firstCells, e, bytesV, List.map_take]
  · split at h <;> simp only [Option.some.injEq, reduceCtorEq, Prod.mk.injEq] at h
    rename_i sz' l' q' he
    obtain ⟨rfl, rfl⟩ := h
    obtain ⟨hq', rfl⟩ := hq
    obtain ⟨a, n, cap, rfl, rfl, vs, hre, hc⟩ := elems_ok he hq' hh hx
    refine ⟨vs, hre, fun w' hw' => ⟨by simp [Builtin.lenOf], fun m hm => ?_⟩⟩
    have hmm : m * sz' ≤ l'.length * sz' := Nat.mul_le_mul_right _ hm
    have hvl := hre.1
    rcases hc with ⟨rfl, rfl⟩ | ⟨pa, rfl, hc⟩
    · have : vs = [] := List.eq_nil_of_length_eq_zero (by simpa using hre.1)
      subst this
      simp [Builtin.firstCells]
    · rcases hc with rfl | ⟨b, o, rfl, hcell⟩
      · have : vs = [] := List.eq_nil_of_length_eq_zero (by simpa using hre.1)
        subst this
        have hm0 : m = 0 := by simpa using hm
        subst hm0
        simp [Builtin.firstCells, loadCells, loadCellsFrom]
      · have := run_loadCells' (P := P) (w := w') (b := b) (o := o) (vs.take (m * sz')) (fun j u hu => by
          rw [cell_of_heap hw']
          rw [List.getElem?_take] at hu
          split at hu
          · exact hcell j u hu
          · simp at hu)
        rw [show (vs.take (m * sz')).length = m * sz' by rw [List.length_take]; omega] at this
        simp [Builtin.firstCells, this]

def srcT (P : Program) (t : TypeId) : Bool := match P.underlying t with | some (.slice _) | some .string => true | _ => false

theorem run_zeros {P : Program} {w : World} {t : TypeId} (h : srcT P t = true) : (do pure ((← underlying t) matches .int _) : Sem Bool).run P w = .ok false w := by
  unfold srcT at h
  split at h
  · rename_i e hu; simp [run_underlying hu]
  · rename_i hu; simp [run_underlying hu]
  · simp at h

def efAppN (P : Program) (L : Nat → Option Blk) (id : Nat) (xT : TypeId) (sz : Nat) (d : AV) (by' : Nat) (x : AV) : Option (AV × Nat × Blk × Prop) :=
  match L id, srcA L sz x with
  | none, some (l, q) => some (.ref id 0 l.length l.length, id, .cells sz false d l,
      q ∧ srcT P xT = true ∧ d.cells.all AV.flat = true ∧ d.cells.length = sz ∧ l.length ≤ maxInt ∧ l.length * by' ≤ 140737488355328)
  | _, _ => none
def efAppend (P : Program) (L : Nat → Option Blk) (id : Nat) (sT xT : TypeId) (s x : AV) : Option (AV × Nat × Blk × Prop) :=
  match P.underlying sT with
  | some (.slice el) => match szT P el, zT P el, byT P el with
    | some sz, some d, some by' =>
      match s with
      | .nils => efAppN P L id xT sz d by' x
      | .nil0 => efAppN P L id xT sz d by' x
      | .ref i off len hw => match L i, srcA L sz x with
        | some (.cells sz' ro d' c), some (l, q) => some (.ref i 0 (len + l.length) (hw + l.length), i, .cells sz' ro d' (c ++ l),
            q ∧ srcT P xT = true ∧ d.cells.all AV.flat = true ∧ d.cells.length = sz ∧ sz' = sz ∧ off = 0 ∧ hw = c.length ∧ len = hw ∧ len + l.length ≤ maxInt ∧ (len + l.length) * by' ≤ 140737488355328)
        | _, _ => none
      | _ => none
    | _, _, _ => none
  | _ => none

theorem zeroCells_size (z : Array Value) (n : Nat) : (Builtin.zeroCells z n).size = n * z.size := by simp [Builtin.zeroCells]

theorem srcT_cases {P : Program} {t : TypeId} (h : srcT P t = true) : (∃ e, P.underlying t = some (.slice e)) ∨ P.underlying t = some .string := by
  unfold srcT at h
  split at h
  · rename_i e hu; exact .inl ⟨e, hu⟩
  · rename_i hu; exact .inr hu
  · simp at h

section
variable {P : Program} {w : World} {sT xT ty el : TypeId} {i : TypeInfo} {base : Option Addr} {n cap m : Nat} {v : Value} {vs olds : List Value}

set_option maxHeartbeats 1000000 in
theorem run_append_in (hu : P.underlying sT = some (.slice el)) (hx : srcT P xT = true) (hi : P.info? el = some i)
    (hlen : (Builtin.lenOf v).run P w = .ok m w) (hfirst : (Builtin.firstCells i.size m v).run P w = .ok vs.toArray w) (hroom : n + m ≤ cap) :
    (Builtin.append_ #[sT, xT] ty #[.slice base n cap, v]).run P w =
      (match base with | some a => (storeCells (a.add (n * i.size)) vs).run P w | none => .ok () w).andThen fun _ w' => .ok (.slice base (n + m) cap) w' := by
  rcases srcT_cases hx with ⟨e, hD⟩ | hD
  · cases base <;> simp [Builtin.append_, run_underlying hu, sizeOf, typeInfo, hi, run_underlying hD, hlen, hroom, hfirst]
  · cases base <;> simp [Builtin.append_, run_underlying hu, sizeOf, typeInfo, hi, run_underlying hD, hlen, hroom, hfirst]

set_option maxHeartbeats 1000000 in
theorem run_append_out {z : Value} (hu : P.underlying sT = some (.slice el)) (hx : srcT P xT = true) (hi : P.info? el = some i) (hz : i.zero = some z)
    (hlen : (Builtin.lenOf v).run P w = .ok m w) (h1 : (Builtin.firstCells i.size m v).run P w.drew = .ok vs.toArray w.drew)
    (h2 : (Builtin.firstCells i.size n (.slice base n cap)).run P w.drew = .ok olds.toArray w.drew)
    (hroom : ¬ n + m ≤ cap) (h63 : n + m ≤ maxInt) (h47 : (n + m) * i.bytes ≤ 140737488355328) :
    (Builtin.append_ #[sT, xT] ty #[.slice base n cap, v]).run P w =
      .ok (.slice (some ⟨w.heap.size, 0, none⟩) (n + m) (grownCap w (n + m) cap el))
        (w.drew.alloc (.cells (olds.toArray ++ vs.toArray ++ Builtin.zeroCells z.cells (grownCap w (n + m) cap el - (n + m))) el)) := by
  have h63' : ¬ (9223372036854775807 < ((n : Int) + (m : Int))) := by simp only [maxInt] at h63; omega
  have h48' : ¬ (281474976710656 < Builtin.nextslicecap (n + m) cap * i.bytes) := by
    have := growslice_fits (need := n + m) (old := cap) (bytes := i.bytes) (by omega) h47
    omega
  rcases srcT_cases hx with ⟨e, hD⟩ | hD
  · simp [Builtin.append_, run_underlying hu, sizeOf, typeInfo, zeroValue, hi, hz, run_underlying hD, hlen, hroom, h63', h48', Question.forced, h1, h2, newRow, grownCap]
    congr 2
    apply Array.ext'
    simp [List.append_assoc]
  · simp [Builtin.append_, run_underlying hu, sizeOf, typeInfo, zeroValue, hi, hz, run_underlying hD, hlen, hroom, h63', h48', Question.forced, h1, h2, newRow, grownCap]
    congr 2
    apply Array.ext'
    simp [List.append_assoc]
end

theorem szT_of {P t i n} (hi : P.info? t = some i) (h : szT P t = some n) : i.size = n := by simp [szT, hi] at h; exact h
theorem byT_of {P t i n} (hi : P.info? t = some i) (h : byT P t = some n) : i.bytes = n := by simp [byT, hi] at h; exact h

theorem RE.ones {w ok L φ sz c vs} (h : RE w ok L φ sz c vs) : ∀ u ∈ vs, u.oneCell' = true := by
  intro u hu
  obtain ⟨k, hk, rfl⟩ := List.mem_iff_getElem.1 hu
  have hk' : k < c.length * sz := by rw [← h.1]; exact hk
  have hsz : 0 < sz := by rcases Nat.eq_zero_or_pos sz with h0 | h0; simp [h0] at hk'; exact h0
  have hi : k / sz < c.length := by rw [Nat.div_lt_iff_lt_mul hsz]; exact hk'
  have hj : k % sz < sz := Nat.mod_lt _ hsz
  have hki : k / sz * sz + k % sz = k := by rw [Nat.mul_comm]; exact Nat.div_add_mod k sz
  have hcl := h.2.1 _ _ (List.getElem?_eq_getElem hi)
  obtain ⟨v, h1, h2, _⟩ := h.2.2 _ _ _ _ (List.getElem?_eq_getElem hi) (List.getElem?_eq_getElem (by omega : k % sz < (c[k / sz]).cells.length))
  rw [hki, List.getElem?_eq_getElem hk] at h1
  cases h1; exact h2

theorem efAppN_ok {P L id sT xT x ty v' id' blk p w0 X ok φ w vs vx el sz d by'} (hu : P.underlying sT = some (.slice el)) (hsz : szT P el = some sz) (hz : zT P el = some d) (hby : byT P el = some by')
    (h : efAppN P L id xT sz d by' x = some (v', id', blk, p)) (hp : p) (hh : HeapOK w ok L φ) (hw0 : w0.heap.size ≤ w.heap.size)
    (hs : ∃ a0, vs = .slice a0 0 0) (hx : R w ok L φ x vx) : EffOK P w0 X (Builtin.append_ #[sT, xT] ty #[vs, vx]) L ok φ w v' id' blk := by
  unfold efAppN at h
  split at h <;> simp only [Option.some.injEq, reduceCtorEq, Prod.mk.injEq] at h
  rename_i l q hL hsrc
  obtain ⟨rfl, rfl, rfl, rfl⟩ := h
  obtain ⟨hq, hxt, hf, hdl, hmx, hbb⟩ := hp
  obtain ⟨i, u, hi, hzu, _, _, hrc⟩ := zero_ok w ok L φ hz hf
  have e1 := szT_of hi hsz
  have e2 := byT_of hi hby
  subst e1
  obtain ⟨a0, rfl⟩ := hs
  obtain ⟨ns, hre, hrun⟩ := src_ok (P := P) hsrc hq hh hx
  have hns : ns.take (l.length * i.size) = ns := List.take_of_length_le (by rw [hre.1]; exact Nat.le_refl _)
  by_cases hl0 : l = []
  · subst hl0
    have : ns = [] := List.eq_nil_of_length_eq_zero (by simpa using hre.1)
    subst this
    refine ⟨.slice a0 0 0, w, φ, ?_, Ext.virt hh hL, ?_⟩
    · have := run_append_in (P := P) (w := w) (sT := sT) (xT := xT) (ty := ty) (base := a0) (n := 0) (cap := 0) (m := 0) (v := vx) (vs := []) hu hxt hi (hrun w rfl).1 (by simpa using (hrun w rfl).2 0 (Nat.zero_le _)) (Nat.le_refl _)
      cases a0 <;> simpa [storeCells] using this
    · exact .ref id 0 0 0 _ _ _ i.size false d [] (by simp [updL]) (Nat.le_refl _) (fun _ => ⟨Nat.le_refl _, .inl ⟨rfl, _, rfl⟩⟩)
  · have hpos : 0 < l.length := List.length_pos_iff.2 hl0
    have hout := run_append_out (P := P) (w := w) (sT := sT) (xT := xT) (ty := ty) (base := a0) (n := 0) (cap := 0) (m := l.length) (v := vx) (vs := ns) (olds := []) hu hxt hi hzu (hrun w rfl).1
      (by rw [← hns]; exact (hrun w.drew rfl).2 _ (Nat.le_refl _)) (by cases a0 <;> simp [Builtin.firstCells, loadCells, loadCellsFrom]) (by omega) (by simpa using hmx) (by rw [e2]; simpa using hbb)
    simp only [Nat.zero_add] at hout
    have hext := Ext.new (w0 := w0) (X := X) (blk := .cells i.size false d l) hh hw0 hL (Grow.drewAlloc w (.cells (([] : List Value).toArray ++ ns.toArray ++ Builtin.zeroCells u.cells (grownCap w l.length 0 el - l.length)) el))
      (.inl ⟨i.size, false, d, l, ns, (Builtin.zeroCells u.cells (grownCap w l.length 0 el - l.length)).toList, el, 0, 0, rfl, by congr 1; apply Array.ext'; simp, fun k _ => by omega, hre⟩)
    refine ⟨_, _, _, hout, hext, .ref id 0 _ _ _ _ _ i.size false d l (by simp [updL]) (by simp) (fun _ => ⟨by omega, .inr ⟨w.heap.size, _, _, by simp [updP], rfl, ?_, ?_, ?_⟩⟩)⟩
    · exact grownCap_ge w l.length 0 el
    · exact grownCap_le_maxLen _ _ _ _ (by simp only [maxInt] at hmx; simp [maxLen]; omega)
    · refine .inr ⟨by simp, _, _, _, heap_alloc_new w.drew _, ?_⟩
      have hge := grownCap_ge w l.length 0 el
      have hus : u.cells.size = i.size := by have := hrc.1; simp at this; omega
      simp only [Array.size_append, List.size_toArray, List.length_nil, hre.1, zeroCells_size, hus, ← Nat.add_mul, Nat.zero_add]
      refine Nat.mul_le_mul_right _ ?_
      omega

theorem efAppend_ok {P L id sT xT s x ty v' id' blk p w0 X ok φ w vs vx} (h : efAppend P L id sT xT s x = some (v', id', blk, p)) (hp : p) (hh : HeapOK w ok L φ) (hw0 : w0.heap.size ≤ w.heap.size)
    (hs : R w ok L φ s vs) (hx : R w ok L φ x vx) : EffOK P w0 X (Builtin.append_ #[sT, xT] ty #[vs, vx]) L ok φ w v' id' blk := by
  unfold efAppend at h
  split at h
  · rename_i el hu
    split at h
    · rename_i sz d by' hsz hz hby
      split at h
      · exact efAppN_ok hu hsz hz hby h hp hh hw0 (by cases hs with | pure _ _ h => cases h; exact ⟨_, rfl⟩) hx
      · exact efAppN_ok hu hsz hz hby h hp hh hw0 (by cases hs with | pure _ _ h => cases h; exact ⟨_, rfl⟩) hx
      · rename_i i' off len hw
        split at h <;> simp only [Option.some.injEq, reduceCtorEq, Prod.mk.injEq] at h
        rename_i sz' ro d' c l q hL hsrc
        obtain ⟨rfl, rfl, rfl, rfl⟩ := h
        obtain ⟨hq, hxt, hf, hdl, rfl, rfl, hw1, rfl, hmx, hbb⟩ := hp
        obtain ⟨i, u, hi, hzu, _, _, hrc⟩ := zero_ok w ok L φ hz hf
        have e1 := szT_of hi hsz
        have e2 := byT_of hi hby
        subst e1
        obtain ⟨sz1, ro1, d1, c1, hL1, hle, ⟨a, n, cap, rfl⟩, hr⟩ := hs.refInv
        rw [hL] at hL1; cases hL1
        obtain ⟨ns, hre, hrun⟩ := src_ok (P := P) hsrc hq hh hx
        have hns : ns.take (l.length * i.size) = ns := List.take_of_length_le (by rw [hre.1]; exact Nat.le_refl _)
        obtain ⟨g1, g2⟩ := hr hw1
        have hus : u.cells.size = i.size := by have := hrc.1; simp at this; omega
        have hl0 : l = [] → ns = [] := fun e => List.eq_nil_of_length_eq_zero (by rw [hre.1, e]; simp)
        have hn : n = len := by
          rcases g2 with ⟨g2, a1, g3⟩ | ⟨b, cap', pa, g2, g3, _⟩
          · cases g3; omega
          · cases g3; rfl
        subst hn
        by_cases hnil : l = [] ∧ n + l.length ≤ cap
        · obtain ⟨rfl, hroom⟩ := hnil
          have hn0 := hl0 rfl
          subst hn0
          refine ⟨.slice a n cap, w, φ, ?_, ?_, ?_⟩
          · have := run_append_in (P := P) (w := w) (sT := sT) (xT := xT) (ty := ty) (base := a) (n := n) (cap := cap) (m := 0) (v := vx) (vs := []) hu hxt hi (hrun w rfl).1 (by simpa using (hrun w rfl).2 0 (Nat.zero_le _)) hroom
            cases a <;> simpa [storeCells] using this
          · have : updL L i' (.cells i.size ro d' (c ++ [])) = L := by
              funext k; simp only [updL]; split
              · rename_i e1; subst e1; simpa using hL.symm
              · rfl
            rw [this]; exact Ext.refl hh
          · have : updL L i' (.cells i.size ro d' (c ++ [])) = L := by
              funext k; simp only [updL]; split
              · rename_i e1; subst e1; simpa using hL.symm
              · rfl
            rw [this]; exact hs
        · have hold : ∃ olds, RE w ok L φ i.size c olds ∧ (∀ w', w'.heap = w.heap → (Builtin.firstCells i.size n (.slice a n cap)).run P w' = .ok olds.toArray w') ∧
            (cap = 0 ∨ ∃ b rest e lo hi, a = some ⟨b, 0, none⟩ ∧ n ≤ cap ∧ cap ≤ maxLen ∧ φ i' = some b ∧ w.heap[b]? = some (.cells (olds ++ rest).toArray e (lo, hi)) ∧
              (∀ o, o < (olds ++ rest).length → ¬ (lo ≤ o ∧ o < hi)) ∧ cap * i.size ≤ (olds ++ rest).length) := by
            rcases g2 with ⟨g2, a1, g3⟩ | ⟨b, cap', pa, g2, g3, g4, g5, g6⟩
            · cases g3
              have hc : c = [] := List.eq_nil_of_length_eq_zero (by omega)
              subst hc
              exact ⟨[], RE.nil .., fun w' _ => by cases a <;> simp [Builtin.firstCells, loadCells, loadCellsFrom], .inl rfl⟩
            · cases g3
              rcases hh.live g2 with ⟨sz1, ro1, d1, c1, vs, rest, e, lo', hi', h1, h2, h3, h4⟩ | ⟨blk1, o1, h1, _, ho1⟩
              · rw [hL] at h1; cases h1
                have hvl : vs.length = n * i.size := by rw [h4.1, ← hw1]
                refine ⟨vs, h4, fun w' hw' => ?_, ?_⟩
                · rcases g6 with g6 | ⟨rfl, _⟩
                  · have hn0 : n = 0 := by omega
                    subst hn0
                    have : vs = [] := List.eq_nil_of_length_eq_zero (by rw [hvl]; omega)
                    subst this
                    simp [Builtin.firstCells, loadCells, loadCellsFrom]
                  · have := run_loadCells' (P := P) (w := w') (b := b) (o := 0) vs (fun j v hj => by
                      rw [cell_of_heap hw', cell_blk h2]
                      have hlt := (List.getElem?_eq_some_iff.1 hj).1
                      simp [List.getElem?_append_left hlt, hj])
                    rw [hvl] at this
                    simpa [Builtin.firstCells] using this
                · rcases g6 with g6 | ⟨rfl, g7⟩
                  · exact .inl g6
                  · refine .inr ⟨b, rest, e, lo', hi', by simp, g4, g5, g2, h2, h3, ?_⟩
                    obtain ⟨cur, e', fz, g8, g9⟩ := g7
                    rw [h2] at g8; cases g8
                    simpa using g9
              · rw [hL] at h1; cases h1; cases ho1
          obtain ⟨olds, hreo, hfirst, hcase⟩ := hold
          have hol : olds.length = n * i.size := by rw [hreo.1, ← hw1]
          have hnl : ns.length = l.length * i.size := hre.1
          by_cases hroom : n + l.length ≤ cap
          · -- in place
            have hin := run_append_in (P := P) (w := w) (sT := sT) (xT := xT) (ty := ty) (base := a) (n := n) (cap := cap) (m := l.length) (v := vx) (vs := ns) hu hxt hi (hrun w rfl).1
              (by rw [← hns]; exact (hrun w rfl).2 _ (Nat.le_refl _)) hroom
            have hlne : l ≠ [] := fun e => hnil ⟨e, hroom⟩
            have hlpos : 0 < l.length := List.length_pos_iff.2 hlne
            rcases hcase with hc0 | ⟨b, rest, e, lo, hi', rfl, hnc, hcm, hφ, hheap, hfz, hcapl⟩
            · omega
            · have hmul : (n + l.length) * i.size ≤ cap * i.size := Nat.mul_le_mul_right _ hroom
              rw [Nat.add_mul] at hmul
              obtain ⟨w', h5, h6, h7⟩ := run_storeCells_blk (P := P) b (n * i.size) e lo hi' ns 0 (olds ++ rest) w hheap hfz (by omega) hre.ones
              simp only [Nat.add_zero] at h7
              rw [← hol, List.take_left, ← List.drop_drop, List.drop_left] at h7
              have hlen2 : (ns ++ rest.drop ns.length).length = rest.length := by
                simp only [List.length_append, List.length_drop] at hcapl ⊢; omega
              have hext := Ext.grew (w0 := w0) (X := X) hh hL hφ h6 hheap h7 hlen2 hfz hreo hre
              refine ⟨.slice (some ⟨b, 0, none⟩) (n + l.length) cap, w', φ, ?_, hext, ?_⟩
              · rw [hin]
                simp only [addr_add_plain, Nat.zero_add, h5, Result.andThen_ok]
              · refine .ref i' 0 _ _ _ _ _ i.size ro d' (c ++ l) (by simp [updL]) (by simp [hw1]) (fun _ => ⟨by omega, .inr ⟨b, cap, _, hφ, rfl, hroom, hcm, .inr ⟨by simp, _, _, _, h7, ?_⟩⟩⟩)
                simp only [List.size_toArray, List.length_append] at hlen2 hcapl ⊢
                simp only [Nat.zero_add]; omega
          · have hout := run_append_out (P := P) (w := w) (sT := sT) (xT := xT) (ty := ty) (base := a) (n := n) (cap := cap) (m := l.length) (v := vx) (vs := ns) (olds := olds) hu hxt hi hzu (hrun w rfl).1
              (by rw [← hns]; exact (hrun w.drew rfl).2 _ (Nat.le_refl _)) (hfirst w.drew rfl) hroom (by omega) (by rw [e2]; exact hbb)
            have hl1 : 0 < l.length := by
              rcases g2 with ⟨g2, a1, g3⟩ | ⟨b, cap', pa, g2, g3, g4, _⟩
              · cases g3; omega
              · cases g3; omega
            have hext := Ext.moved (w0 := w0) (X := X) (d := d') (ro := ro) (c' := c ++ l) (rest := (Builtin.zeroCells u.cells (grownCap w (n + l.length) cap el - (n + l.length))).toList) (lo := 0) (hi := 0)
              hh hw0 hL (by simp; omega) (w' := w.drew.alloc (.cells (olds.toArray ++ ns.toArray ++ Builtin.zeroCells u.cells (grownCap w (n + l.length) cap el - (n + l.length))) el))
              (by
                have := Grow.drewAlloc w (.cells (olds.toArray ++ ns.toArray ++ Builtin.zeroCells u.cells (grownCap w (n + l.length) cap el - (n + l.length))) el)
                have e3 : (olds.toArray ++ ns.toArray ++ Builtin.zeroCells u.cells (grownCap w (n + l.length) cap el - (n + l.length))) = ((olds ++ ns) ++ (Builtin.zeroCells u.cells (grownCap w (n + l.length) cap el - (n + l.length))).toList).toArray := by
                  apply Array.ext'; simp
                rw [e3] at this ⊢
                exact this) (fun k _ => by omega) (hreo.append hre)
            refine ⟨_, _, _, hout, hext, .ref i' 0 _ _ _ _ _ i.size ro d' (c ++ l) (by simp [updL]) (by simp [hw1]) (fun _ => ⟨by omega, .inr ⟨w.heap.size, _, _, by simp [updP], rfl, grownCap_ge .., ?_, ?_⟩⟩)⟩
            · exact grownCap_le_maxLen _ _ _ _ (by simp only [maxInt] at hmx; simp [maxLen]; omega)
            · refine .inr ⟨by simp, _, _, _, heap_alloc_new w.drew _, ?_⟩
              have hge := grownCap_ge w (n + l.length) cap el
              simp only [Array.size_append, List.size_toArray, hol, hre.1, zeroCells_size, hus, ← Nat.add_mul, Nat.zero_add]
              exact Nat.mul_le_mul_right _ (by omega)
      · simp at h
    · simp at h
  · simp at h
end Go.Abs
set_option linter.unusedVariables false
set_option linter.unusedSimpArgs false
namespace Go.Abs

theorem RE.replicate {w ok L φ sz} {d : AV} {u : Value} {k : Nat} (hdl : d.cells.length = sz) (hrc : RC w ok L φ d.cells u.cells.toList) : RE w ok L φ sz (List.replicate k d) (Builtin.zeroCells u.cells k).toList := by
  have hus : u.cells.size = sz := by have := hrc.1; simp at this; omega
  have hcell : ∀ j, j < sz → u.cells.toList[j]? = some u.cells[j]! := fun j hj => by
    have hj' : j < u.cells.size := by omega
    simp [hj', getElem!_pos]
  refine ⟨by simp [Builtin.zeroCells, hus], fun i x hx => ?_, fun i x j y hx hy => ?_⟩
  · rw [List.getElem?_replicate] at hx
    split at hx
    · cases hx; exact hdl
    · simp at hx
  · rw [List.getElem?_replicate] at hx
    split at hx
    · rename_i hik
      cases hx
      have hj : j < sz := by rw [← hdl]; exact (List.getElem?_eq_some_iff.1 hy).1
      have hlt := idx_lt hik hj
      refine ⟨u.cells[j]!, ?_, hrc.2.1 j _ (hcell j hj), hrc.2.2 j _ _ hy (hcell j hj)⟩
      simp only [Builtin.zeroCells, hus, Array.toList_map, Array.toList_range, List.getElem?_map, List.getElem?_range hlt, Option.map_some]
      rw [Nat.mul_comm, Nat.mul_add_mod, Nat.mod_eq_of_lt hj]
    · simp at hx

/-- Elements written over others. -/
theorem Ext.splice {P : Program} {w0 X L ok φ w id b sz d c l us vs rest e lo hi} (h : HeapOK w ok L φ) (hL : L id = some (.cells sz false d c)) (hb : φ id = some b)
    (hold : w.heap[b]? = some (.cells (vs ++ rest).toArray e (lo, hi))) (hfz : ∀ k, k < (vs ++ rest).length → ¬ (lo ≤ k ∧ k < hi)) (hre : RE w ok L φ sz c vs) (hrl : RE w ok L φ sz l us) (off : Nat) (hle : off + l.length ≤ c.length) :
    ∃ w', (storeCells ⟨b, off * sz, none⟩ us).run P w = .ok () w' ∧ Ext w0 X L ok φ w (updL L id (.cells sz false d (c.take off ++ (l ++ c.drop (off + l.length))))) ok φ w' := by
  have hul := hrl.1
  have hvl := hre.1
  have hmul : off * sz + l.length * sz ≤ c.length * sz := by rw [← Nat.add_mul]; exact Nat.mul_le_mul_right _ hle
  obtain ⟨w', h5, h6, h7⟩ := run_storeCells_blk (P := P) b (off * sz) e lo hi us 0 (vs ++ rest) w hold hfz (by simp only [List.length_append]; omega) hrl.ones
  simp only [Nat.add_zero] at h7
  have e1 : (vs ++ rest).take (off * sz) ++ (us ++ (vs ++ rest).drop (off * sz + us.length)) = (vs.take (off * sz) ++ (us ++ vs.drop (off * sz + us.length))) ++ rest := by
    rw [List.take_append_of_le_length (by omega), List.drop_append_of_le_length (by omega)]
    simp [List.append_assoc]
  rw [e1] at h7
  have hlen : (vs.take (off * sz) ++ (us ++ vs.drop (off * sz + us.length))).length = vs.length := by
    simp only [List.length_append, List.length_take, List.length_drop]; omega
  have r1 := hre.sub 0 off
  have r3 := hre.sub (off + l.length) (c.length - (off + l.length))
  simp only [List.drop_zero, Nat.zero_mul] at r1
  have e3 : (c.drop (off + l.length)).take (c.length - (off + l.length)) = c.drop (off + l.length) := List.take_of_length_le (by simp)
  have e4 : (vs.drop ((off + l.length) * sz)).take ((c.length - (off + l.length)) * sz) = vs.drop (off * sz + us.length) := by
    rw [hul, Nat.add_mul]
    refine List.take_of_length_le ?_
    rw [List.length_drop, hvl, Nat.sub_mul, Nat.add_mul]
    exact Nat.le_refl _
  rw [e3, e4] at r3
  have hnew := r1.append (hrl.append r3)
  refine ⟨w', h5, Ext.wrote h hb h6 (.inl ⟨sz, d, c, d, _, _, rest, e, lo, hi, hL, rfl, ?_, h7, fun k hk => hfz k ?_, hnew, fun n hc => ?_⟩)⟩
  · simp only [List.length_append, List.length_take, List.length_drop]; omega
  · simp only [List.length_append] at hk hlen ⊢; omega
  · obtain ⟨cur, e', fz, g1, g2⟩ := hc
    rw [hold] at g1; cases g1
    refine ⟨_, _, _, h7, ?_⟩
    simp only [List.size_toArray, List.length_append] at g2 hlen ⊢; omega

theorem updL_same {L : Nat → Option Blk} {id : Nat} {b : Blk} (h : L id = some b) : updL L id b = L := by
  funext i; simp only [updL]; split
  · rename_i e; subst e; exact h.symm
  · rfl

/-- A slice of one's own: what lies under it. -/
theorem ref_live {w ok L φ id off len hw v sz ro d c} (hh : HeapOK w ok L φ) (hx : R w ok L φ (.ref id off len hw) v) (hL : L id = some (.cells sz ro d c)) (hw1 : hw = c.length) :
    off + len ≤ c.length ∧ ∃ a cap, v = .slice a len cap ∧ (len = 0 ∨ ∃ b vs rest e lo hi, a = some ⟨b, off * sz, none⟩ ∧ φ id = some b ∧ w.heap[b]? = some (.cells (vs ++ rest).toArray e (lo, hi)) ∧
      (∀ k, k < (vs ++ rest).length → ¬ (lo ≤ k ∧ k < hi)) ∧ RE w ok L φ sz c vs) := by
  obtain ⟨sz1, ro1, d1, c1, hL1, hle, ⟨a, n, m, rfl⟩, hr⟩ := hx.refInv
  rw [hL] at hL1; cases hL1
  obtain ⟨g1, g2⟩ := hr hw1
  refine ⟨by omega, ?_⟩
  rcases g2 with ⟨g2, a1, g3⟩ | ⟨b, cap, pa, g2, g3, g4, g5, g6⟩
  · cases g3
    obtain rfl : len = 0 := by omega
    exact ⟨a, 0, rfl, .inl rfl⟩
  · cases g3
    refine ⟨_, _, rfl, ?_⟩
    rcases g6 with g6 | ⟨rfl, _⟩
    · exact .inl (by omega)
    · rcases hh.live g2 with ⟨sz1, ro1, d1, c1, vs, rest, e, lo, hi, h1, h2, h3, h4⟩ | ⟨blk, o, h1, _, ho⟩
      · rw [hL] at h1; cases h1
        exact .inr ⟨b, vs, rest, e, lo, hi, rfl, g2, h2, h3, h4⟩
      · rw [hL] at h1; cases h1; cases ho

def efCopy (P : Program) (L : Nat → Option Blk) (dT : TypeId) (s x : AV) : Option (AV × Nat × Blk × Prop) :=
  match P.underlying dT with
  | some (.slice el) => match s with
    | .ref i off len hw => match L i with
      | some (.cells sz false d c) => match srcA L sz x with
        | some (l, q) => some (.int .i64 (min l.length len : Nat), i, .cells sz false d (c.take off ++ (l.take (min l.length len) ++ c.drop (off + min l.length len))), q ∧ szT P el = some sz ∧ hw = c.length)
        | none => none
      | _ => none
    | _ => none
  | _ => none

theorem efCopy_ok {P L dT sT s x ty v' id' blk p w0 X ok φ w vs vx} (h : efCopy P L dT s x = some (v', id', blk, p)) (hp : p) (hh : HeapOK w ok L φ)
    (hs : R w ok L φ s vs) (hx : R w ok L φ x vx) : EffOK P w0 X (Builtin.copy_ #[dT, sT] ty #[vs, vx]) L ok φ w v' id' blk := by
  unfold efCopy at h
  split at h
  · rename_i el hu
    split at h
    · rename_i i off len hw
      split at h
      · rename_i sz d c hL
        split at h <;> simp only [Option.some.injEq, reduceCtorEq, Prod.mk.injEq] at h
        rename_i l q hsrc
        obtain ⟨rfl, rfl, rfl, rfl⟩ := h
        obtain ⟨hq, hsz, hw1⟩ := hp
        obtain ⟨g1, a, cap, rfl, g2⟩ := ref_live hh hs hL hw1
        obtain ⟨ns, hre, hrun⟩ := src_ok (P := P) hsrc hq hh hx
        obtain ⟨r1, r2⟩ := hrun w rfl
        have hmin : Nat.min l.length len = min l.length len := rfl
        by_cases h0 : min l.length len = 0
        · refine ⟨.int .i64 0, w, φ, ?_, ?_, by rw [h0]; exact .pure _ _ (.int _ _)⟩
          · have e0 := r2 0 (Nat.zero_le _)
            simp only [Nat.zero_mul, List.take_zero] at e0
            cases a <;> simp [Builtin.copy_, run_underlying hu, r1, hmin, h0, run_sizeOf' hsz, e0, storeCells, goInt]
          · rw [h0]
            have e1 : c.take off ++ (l.take 0 ++ c.drop (off + 0)) = c := by simp
            rw [e1, updL_same hL]
            exact Ext.refl hh
        · rcases g2 with g2 | ⟨b, bs, rest, e, lo, hi, rfl, k1, k2, k3, k4⟩
          · subst g2; simp at h0
          · have hsub := hre.sub 0 (min l.length len)
            simp only [List.drop_zero, Nat.zero_mul] at hsub
            have hlm : (l.take (min l.length len)).length = min l.length len := by simp only [List.length_take]; omega
            obtain ⟨w', h5, hx'⟩ := Ext.splice (P := P) (w0 := w0) (X := X) hh hL k1 k2 k3 k4 hsub off (by rw [hlm]; omega)
            rw [hlm] at hx'
            refine ⟨_, w', φ, ?_, hx', .pure _ _ (.int _ _)⟩
            simp [Builtin.copy_, run_underlying hu, r1, hmin, run_sizeOf' hsz, r2 _ (Nat.min_le_left _ _), h5, goInt]
      · simp at h
    · simp at h
  · simp at h

def efClear (P : Program) (L : Nat → Option Blk) (t : TypeId) (x : AV) : Option (AV × Nat × Blk × Prop) :=
  match P.underlying t with
  | some (.slice el) => match x with
    | .ref i off len hw => match L i, zT P el with
      | some (.cells sz false d c), some z => some (.any, i, .cells sz false d (c.take off ++ (List.replicate len z ++ c.drop (off + len))), hw = c.length ∧ z.cells.all AV.flat = true ∧ z.cells.length = sz)
      | _, _ => none
    | _ => none
  | _ => none

theorem efClear_ok {P L t x ty v' id' blk p w0 X ok φ w vx} (h : efClear P L t x = some (v', id', blk, p)) (hp : p) (hh : HeapOK w ok L φ) (hx : R w ok L φ x vx) :
    EffOK P w0 X (Builtin.clear_ #[t] ty #[vx]) L ok φ w v' id' blk := by
  unfold efClear at h
  split at h
  · rename_i el hu
    split at h
    · rename_i i off len hw
      split at h <;> simp only [Option.some.injEq, reduceCtorEq, Prod.mk.injEq] at h
      rename_i sz d c z hL hz
      obtain ⟨rfl, rfl, rfl, rfl⟩ := h
      obtain ⟨hw1, hf, hzl⟩ := hp
      obtain ⟨g1, a, cap, rfl, g2⟩ := ref_live hh hx hL hw1
      obtain ⟨inf, u, hi, hzu, _, _, hrc⟩ := zero_ok w ok L φ hz hf
      rcases g2 with g2 | ⟨b, bs, rest, e, lo, hi', rfl, k1, k2, k3, k4⟩
      · subst g2
        refine ⟨.tuple #[], w, φ, ?_, ?_, .pure _ _ (.any _)⟩
        · cases a <;> simp [Builtin.clear_, run_underlying hu]
        · have e1 : c.take off ++ (List.replicate 0 z ++ c.drop (off + 0)) = c := by simp
          rw [e1, updL_same hL]
          exact Ext.refl hh
      · have hre := RE.replicate (k := len) hzl hrc
        obtain ⟨w', h5, hx'⟩ := Ext.splice (P := P) (w0 := w0) (X := X) hh hL k1 k2 k3 k4 hre off (by simp; omega)
        simp only [List.length_replicate] at hx'
        refine ⟨.tuple #[], w', φ, ?_, hx', .pure _ _ (.any _)⟩
        cases len with
        | zero =>
          have e0 : (Builtin.zeroCells u.cells 0).toList = [] := by simp [Builtin.zeroCells]
          rw [e0] at h5
          simp only [storeCells, Sem.run_pure] at h5
          cases h5
          simp [Builtin.clear_, run_underlying hu]
        | succ k => simp [Builtin.clear_, run_underlying hu, run_zero hi hzu, h5]
    · simp at h
  · simp at h
end Go.Abs
