/- diff: the walk of the table. No condition beyond those that a machine's numbers bring. -/
import Derived.Test.YtlkfjkimnkhelaaFam
import Derived.Test.YtlkfjkimnkhelaaTyp
import Derived.Test.YtlkfjkimnkhelaaDifL
set_option linter.unusedVariables false
set_option linter.unusedSimpArgs false
namespace Go.Proofs.Try.Dif
open Go Go.Abs Go.Proofs Go.Mdl

def refsF (n m : Nat) : List AV := (List.range n).map fun i => .ref (500000 + i) 0 m m
def rowF (m : Nat) (g : Nat → Int) : List AV := (List.range m).map fun k => .int .i64 (g k)
def rowsF (n m : Nat) (T : Nat → Nat → Int) : List Blk := (List.range n).map fun i => .cells 1 false (.int .i64 0) (rowF m (T i))
def tabAV (a b : List (List UInt8)) : AV := .list 1 ((List.range (a.length + 1)).map fun i => .list 1 (rowF (b.length + 1) fun k => (lcs (a.drop i) (b.drop k) : Nat)))
theorem refsF_len (n m : Nat) : (refsF n m).length = n := by simp [refsF]
theorem rowF_len (m : Nat) (g : Nat → Int) : (rowF m g).length = m := by simp [rowF]
theorem rowsF_len (n m : Nat) (T : Nat → Nat → Int) : (rowsF n m T).length = n := by simp [rowsF]
theorem refsF_get {n m j : Nat} (h : j < n) (d : AV) : (refsF n m).getD j d = .ref (500000 + j) 0 m m := by
  simp [refsF, List.getD_eq_getElem?_getD, List.getElem?_map, List.getElem?_range h]
theorem rowF_get {m j : Nat} {g : Nat → Int} (h : j < m) (d : AV) : (rowF m g).getD j d = .int .i64 (g j) := by
  simp [rowF, List.getD_eq_getElem?_getD, List.getElem?_map, List.getElem?_range h]
theorem rowsF_get {n m j : Nat} {T : Nat → Nat → Int} (h : j < n) : (rowsF n m T)[j]? = some (.cells 1 false (.int .i64 0) (rowF m (T j))) := by
  simp [rowsF, List.getElem?_map, List.getElem?_range h]
theorem rowF_set {m j : Nat} {g : Nat → Int} (v : Int) : (rowF m g).set j (.int .i64 v) = rowF m fun k => if k = j then v else g k := by
  apply List.ext_getElem?
  intro i
  by_cases hi : i < m
  · by_cases e : j = i
    · subst e; rw [List.getElem?_set_self (by rw [rowF_len]; exact hi)]; simp [rowF, hi]
    · rw [List.getElem?_set_ne e]; simp [rowF, hi, Ne.symm e]
  · rw [List.getElem?_eq_none (by rw [List.length_set, rowF_len]; omega), List.getElem?_eq_none (by rw [rowF_len]; omega)]
theorem rowF_pure (m : Nat) (g : Nat → Int) : pureEl (rowF m g) = true := pureEl_map _ _ (fun _ => rfl)
theorem refsF_snoc (n m : Nat) : refsF (n + 1) m = refsF n m ++ [.ref (500000 + n) 0 m m] := by simp [refsF, List.range_succ]

theorem refsF_ren (x m : Nat) (M : Nat) (hM : M < 500000) : (refsF x m).map (ren (swapN M (500000 + x))) = refsF x m := by
  simp only [refsF, List.map_map]
  apply List.map_congr_left
  intro j hj
  have := List.mem_range.1 hj
  simp only [Function.comp_apply, ren, swapN]
  rw [if_neg (by omega), if_neg (by omega)]
theorem refs_ids {L : Nat → Option Blk} {n m k : Nat} (h : ∀ j, j < n → L (500000 + j) ≠ none) : contOK L (refsF n m ++ List.replicate k .nils) := by
  refine .inr (idsOKL_of (fun a ha => ?_))
  rw [List.flatMap_append, List.mem_append] at ha
  rcases ha with ha | ha
  · obtain ⟨y, hy, h2⟩ := List.mem_flatMap.1 ha
    obtain ⟨j, hj, rfl⟩ := List.mem_map.1 hy
    simp only [AV.cells, List.mem_singleton] at h2
    subst h2
    exact h j (List.mem_range.1 hj)
  · obtain ⟨y, hy, h2⟩ := List.mem_flatMap.1 ha
    have := (List.mem_replicate.1 hy).2
    subst this
    simp only [AV.cells, List.mem_singleton] at h2
    subst h2
    trivial
theorem refs_ids0 {L : Nat → Option Blk} {n m : Nat} (h : ∀ j, j < n → L (500000 + j) ≠ none) : contOK L (refsF n m) := by
  have := refs_ids (k := 0) (m := m) h
  simpa using this
/-- The state's blocks: the table's slice, and its rows. -/
abbrev famL (n m : Nat) (c : List AV) (T : Nat → Nat → Int) : List (Nat × Blk) := (208, .cells 1 false .nils c) :: extB (rowsF n m T) 500000
theorem famL_row {n m j : Nat} {c : List AV} {T : Nat → Nat → Int} (h : j < n) : lkB (famL n m c T) (500000 + j) = some (.cells 1 false (.int .i64 0) (rowF m (T j))) := by
  show (if 208 = 500000 + j then _ else lkB _ _) = _
  rw [if_neg (by omega), lkB_fam_in (rowsF_get h)]
theorem famL_hi {n m : Nat} {c : List AV} {T : Nat → Nat → Int} (h : n ≤ 400000) : lkB (famL n m c T) defId = none := by
  have : lkB (extB (rowsF n m T) 500000) defId = none := lkB_fam_hi (by rw [rowsF_len]; simp only [defId]; omega)
  exact this
/-- Rows of the same length: what must be shown that the state may be told so. -/
theorem weakF {s : St} {tm : List (Nat × AV)} {n m : Nat} {c : List AV} {T : Nat → Nat → Int} (hn : n ≤ 400000) (ht : noAnyT tm = true ∧ subTE s (lkB (famL n m c T)) tm) (h1 : s.lk 208 = some (.cells 1 false .nils c)) (h2 : contOK (lkB (famL n m c T)) c)
    (h3 : ∀ j, j < n → s.lk (500000 + j) = some (.cells 1 false (.int .i64 0) (rowF m (T j)))) (h4 : s.lk defId = none) : Weak 0 s ⟨tm, famL n m c T⟩ := by
  refine .base ⟨subTE_ok ht.1 ht.2, ⟨.inl ⟨h1, h2⟩, subB_fam _ _ (fun k b hk => ?_)⟩, .inl h4⟩
  have hk2 := (List.getElem?_eq_some_iff.1 hk).1
  rw [rowsF_len] at hk2
  rw [rowsF_get hk2] at hk
  cases hk
  exact ⟨h3 k hk2, .inl (rowF_pure _ _)⟩

theorem refs_step {x m k M : Nat} (hM : M < 500000) (hk : 0 < k) : ((refsF x m ++ List.replicate k AV.nils).set (0 + x) (AV.ref M 0 m m)).map (ren (swapN M (500000 + x))) = refsF (x + 1) m ++ List.replicate (k - 1) AV.nils := by
  obtain ⟨k, rfl⟩ : ∃ j, k = j + 1 := ⟨k - 1, by omega⟩
  rw [List.set_append_right _ _ (by rw [refsF_len]; omega), refsF_len, show 0 + x - x = 0 by omega, List.replicate_succ, List.set_cons_zero, List.map_append, refsF_ren _ _ _ hM, List.map_cons, List.map_replicate, refsF_snoc, List.append_assoc]
  simp [ren, swapN]
theorem rowF_zero (m : Nat) : AV.int .i64 0 :: List.replicate m (AV.int .i64 0) = rowF (m + 1) fun _ => 0 := by
  rw [← List.replicate_succ]
  refine (List.eq_replicate_iff.2 ⟨by simp [rowF], fun b hb => ?_⟩).symm
  obtain ⟨_, _, rfl⟩ := List.mem_map.1 hb
  rfl
theorem rowF_map (m : Nat) (g : Nat → Int) (σ : Nat → Nat) : (rowF m g).map (ren σ) = rowF m g := by simp [rowF, List.map_map, Function.comp_def, ren]
theorem rowF_congr {m : Nat} {g h : Nat → Int} (e : ∀ k, k < m → g k = h k) : rowF m g = rowF m h := by
  simp only [rowF]
  apply List.map_congr_left
  intro k hk
  rw [e k (List.mem_range.1 hk)]

def lcI (a b : List (List UInt8)) (i k : Nat) : Int := (lcs (a.drop i) (b.drop k) : Nat)
def T2 (a b : List (List UInt8)) (x i k : Nat) : Int := if x ≤ i then lcI a b i k else 0
def T3 (a b : List (List UInt8)) (x y i k : Nat) : Int := if x < i ∨ i = x ∧ y ≤ k then lcI a b i k else 0
theorem lcI_a {a b : List (List UInt8)} {i k : Nat} (h : a.length ≤ i) : lcI a b i k = 0 := by rw [lcI, List.drop_eq_nil_of_le h, lcs_nil]; rfl
theorem lcI_b {a b : List (List UInt8)} {i k : Nat} (h : b.length ≤ k) : lcI a b i k = 0 := by rw [lcI, List.drop_eq_nil_of_le h, lcs_nil']; rfl

theorem drop_get {l : List (List UInt8)} {i : Nat} (h : i < l.length) : l.drop i = l.getD i [] :: l.drop (i + 1) := by
  rw [List.drop_eq_getElem_cons h, List.getD_eq_getElem?_getD, List.getElem?_eq_getElem h]; rfl
theorem lcI_eq {a b : List (List UInt8)} {x y : Nat} (hx : x < a.length) (hy : y < b.length) (h : a.getD x [] = b.getD y []) : lcI a b x y = lcI a b (x + 1) (y + 1) + 1 := by
  simp only [lcI]; rw [drop_get hx, drop_get hy, lcs_cons, if_pos h]; simp
theorem lcI_ne {a b : List (List UInt8)} {x y : Nat} (hx : x < a.length) (hy : y < b.length) (h : ¬ a.getD x [] = b.getD y []) : lcI a b x y = max (lcI a b (x + 1) y) (lcI a b x (y + 1)) := by
  simp only [lcI]; rw [drop_get hx, drop_get hy, lcs_cons, if_neg h, ← drop_get hx, ← drop_get hy]; omega
theorem lcI_range (a b : List (List UInt8)) (x y : Nat) : 0 ≤ lcI a b x y ∧ lcI a b x y ≤ a.length := by
  have := lcs_le (a.drop x) (b.drop y)
  rw [List.length_drop] at this
  simp only [lcI]; omega
/-- One cell more is told. -/
theorem weak_cell {tm tm' : List (Nat × AV)} {a b : List (List UInt8)} {n m x y : Nat} {v : Int} (hn : n ≤ 400000) (hx : x < n) (hv : v = lcI a b x y)
    (ht : noAnyT tm' = true ∧ subTE ⟨tm, (500000 + x, .cells 1 false (.int .i64 0) ((rowF m (T3 a b x (y + 1) x)).set (0 + y) (.int .i64 v))) :: famL n m (refsF n m) (T3 a b x (y + 1))⟩ (lkB (famL n m (refsF n m) (T3 a b x y))) tm') :
    Weak 0 ⟨tm, (500000 + x, .cells 1 false (.int .i64 0) ((rowF m (T3 a b x (y + 1) x)).set (0 + y) (.int .i64 v))) :: famL n m (refsF n m) (T3 a b x (y + 1))⟩ ⟨tm', famL n m (refsF n m) (T3 a b x y)⟩ := by
  refine weakF hn ht ?_ (refs_ids0 (fun j hj => by rw [famL_row hj]; simp)) ?_ ?_
  · show (if 500000 + x = 208 then _ else some _) = _
    rw [if_neg (by omega)]
  · intro j hj
    show (if 500000 + x = 500000 + j then _ else lkB (famL _ _ _ _) _) = _
    by_cases e : x = j
    · subst e
      rw [if_pos rfl, Nat.zero_add, rowF_set, rowF_congr (h := T3 a b x y x)]
      intro k hk
      simp only [T3, Nat.lt_irrefl, false_or, true_and]
      by_cases e2 : k = y
      · subst e2; rw [if_pos rfl, if_pos (Nat.le_refl _), hv]
      · rw [if_neg e2]
        by_cases e3 : y ≤ k
        · rw [if_pos (by omega), if_pos (by omega)]
        · rw [if_neg (by omega), if_neg (by omega)]
    · rw [if_neg (by omega), famL_row hj, rowF_congr (h := T3 a b x y j)]
      intro k hk
      simp only [T3]
      by_cases e3 : x < j
      · rw [if_pos (by omega), if_pos (by omega)]
      · rw [if_neg (by omega), if_neg (by omega)]
  · show (if 500000 + x = defId then _ else lkB (famL _ _ _ _) _) = _
    rw [if_neg (by simp only [defId]; omega), famL_hi hn]
theorem T3_at {a b : List (List UInt8)} {x y i k : Nat} (h : x < i ∨ i = x ∧ y ≤ k) : T3 a b x y i k = lcI a b i k := by rw [T3, if_pos h]

def T_tab : Tbl := fun g E args => nilT g E args
theorem T_tab_ok : TblOK Try.prog T_tab := nilT_ok
set_option maxRecDepth 100000 in
set_option maxHeartbeats 4000000 in
theorem specTableW (a b : List (List UInt8)) (ha : a.length ≤ 100000) (hb : b.length ≤ 100000) : SpecE Try.prog 25 [] [enc_strs a, enc_strs b] [] (tabAV a b) := by
  refine specW (C := T_tab) (wr := false) (D := fun i => if i = 14 then [16] else if i = 15 then [23] else []) (U := fun _ => none) (E := []) (E' := []) (res := [tabAV a b]) Try.Ty.mixed T_tab_ok Try.func25 (args := [enc_strs a, enc_strs b]) (nE := 0) (nA := 2) (by decide +kernel) rfl rfl ?_
  simp only [Try.f25, bodyOf, rlOf]
  rw [W_V]
  simp (config := {maxSteps := 2000000}) only [T_tab, go_sem, seval]
  refine ⟨by omega, by omega, by rw [List.length_replicate], ?_⟩
  refine VL_invW (X := Nat) (fun x => ⟨[(0, enc_strs a), (1, enc_strs b), (5, .ref 208 0 (a.length + 1) (a.length + 1)), (13, .ref 208 0 (a.length + 1) (a.length + 1)), (14, .int .i64 (a.length + 1)), (15, .int .i64 x)],
    famL x (b.length + 1) (refsF x (b.length + 1) ++ List.replicate (a.length + 1 - x) .nils) fun _ _ => 0⟩) (fun x => x ≤ a.length + 1) (fun x => a.length + 1 - x) 0 ?_ ?_ ?_
  · refine WeakE.weak ?_
    simp only [refsF, rowsF, extB, List.map_nil, List.nil_append, List.append_nil, Nat.sub_zero, List.replicate_succ, go_sem, seval]
    exact ⟨by omega, .inl (by simp [pureEl, pureBL, AV.cells, AV.pureB])⟩
  · exact Nat.zero_le _
  · intro x hx
    have hl : (refsF x (b.length + 1) ++ List.replicate (a.length + 1 - x) AV.nils).length = a.length + 1 := by rw [List.length_append, refsF_len, List.length_replicate]; omega
    simp (config := {maxSteps := 2000000}) only [T_tab, kinvW_normal, kinvW_exit, kinvW_ret, lkB_fam_lo, hl, go_sem, seval]
    refine ⟨fun hlt => ⟨by omega, by omega, by omega, by omega, by omega, x + 1, ?_, by omega, by omega⟩, fun hge => ⟨by omega, ?_⟩⟩
    · refine .swap 384 (500000 + x) (Nat.zero_le _) (Nat.zero_le _) (by decide) (by simp only [defId]; omega) (weakF (by omega) ⟨rfl, ?_⟩ ?_ ?_ ?_ ?_)
      · simp only [subTE, swap_get, go_sem, seval]
        rw [if_neg (by omega)]
        exact ⟨rfl, rfl, by omega⟩
      · rw [swap_lk_ne (by decide) (by omega)]
        show some (Blk.cells 1 false _ _) = _
        rw [refs_step (by decide) (by omega)]
        rfl
      · exact refs_ids (fun j hj => by rw [famL_row hj]; simp)
      · intro j hj
        by_cases e : j = x
        · subst e
          rw [swap_lk_r]
          show some (Blk.cells 1 false _ _) = _
          rw [rowF_zero, rowF_map]
          rfl
        · rw [swap_lk_ne (by omega) (by omega)]
          show Option.map _ (if 208 = 500000 + j then _ else if 384 = 500000 + j then _ else lkB (famL _ _ _ _) _) = _
          rw [if_neg (by omega), if_neg (by omega), famL_row (by omega)]
          show some (Blk.cells 1 false _ _) = _
          rw [rowF_map]
          rfl
      · rw [swap_lk_ne (by decide) (by simp only [defId]; omega)]
        show Option.map _ (lkB (famL _ _ _ _) _) = _
        rw [famL_hi (by omega)]
        rfl
    · have e : x = a.length + 1 := by omega
      subst e
      refine VL_invW (X := Nat) (fun x => ⟨[(0, enc_strs a), (1, enc_strs b), (5, .ref 208 0 (a.length + 1) (a.length + 1)), (7, .int .i64 ((x : Int) - 1))], famL (a.length + 1) (b.length + 1) (refsF (a.length + 1) (b.length + 1)) (T2 a b x)⟩) (fun x => x ≤ a.length) (fun x => x) a.length ?_ ?_ ?_
      · refine weakF (by omega) ⟨rfl, ?_⟩ ?_ ?_ ?_ ?_
        · simp only [go_sem, seval]
        · show some (Blk.cells 1 false _ _) = _
          rw [Nat.sub_self, List.replicate_zero, List.append_nil]
        · exact refs_ids0 (fun j hj => by rw [famL_row hj]; simp)
        · intro j hj
          show lkB (famL _ _ _ _) _ = _
          rw [famL_row hj]
          rw [rowF_congr (h := T2 a b a.length j)]
          intro k hk
          simp only [T2]
          split
          · rw [lcI_a (by omega)]
          · rfl
        · exact famL_hi (by omega)
      · exact Nat.le_refl _
      · intro x hx
        simp (config := {maxSteps := 2000000}) only [T_tab, kinvW_normal, kinvW_exit, kinvW_ret, lkB_fam_lo, go_sem, seval]
        refine ⟨fun h1 => ⟨by omega, ?_⟩, fun h1 => ?_⟩
        · obtain ⟨x, rfl⟩ : ∃ z, x = z + 1 := ⟨x - 1, by omega⟩
          refine VL_invW (X := Nat) (fun y => ⟨[(0, enc_strs a), (1, enc_strs b), (5, .ref 208 0 (a.length + 1) (a.length + 1)), (7, .int .i64 x), (8, .int .i64 ((y : Int) - 1))], famL (a.length + 1) (b.length + 1) (refsF (a.length + 1) (b.length + 1)) (T3 a b x y)⟩) (fun y => y ≤ b.length) (fun y => y) b.length ?_ ?_ ?_
          · refine weakF (by omega) ⟨rfl, ?_⟩ rfl (refs_ids0 (fun j hj => by rw [famL_row hj]; simp)) ?_ (famL_hi (by omega))
            · simp only [go_sem, seval]
              omega
            · intro j hj
              show lkB (famL _ _ _ _) _ = _
              rw [famL_row hj, rowF_congr (h := T3 a b x b.length j)]
              intro k hk
              simp only [T2, T3]
              by_cases e1 : x < j
              · rw [if_pos (by omega), if_pos (by omega)]
              · rw [if_neg (by omega)]
                split
                · rw [lcI_b (by omega)]
                · rfl
          · exact Nat.le_refl _
          · intro y hy
            have r0 : ∀ d, (refsF (a.length + 1) (b.length + 1)).getD (0 + x) d = .ref (500000 + x) 0 (b.length + 1) (b.length + 1) := fun d => by rw [Nat.zero_add]; exact refsF_get (by omega) d
            have r1 : ∀ d, (refsF (a.length + 1) (b.length + 1)).getD (0 + (x + 1)) d = .ref (500000 + (x + 1)) 0 (b.length + 1) (b.length + 1) := fun d => by rw [Nat.zero_add]; exact refsF_get (by omega) d
            have b0 : ∀ T, lkB (extB (rowsF (a.length + 1) (b.length + 1) T) 500000) (500000 + x) = _ := fun T => lkB_fam_in (rowsF_get (by omega))
            have b1 : ∀ T, lkB (extB (rowsF (a.length + 1) (b.length + 1) T) 500000) (500000 + (x + 1)) = _ := fun T => lkB_fam_in (rowsF_get (by omega))
            have n0 : (208 = 500000 + x) = False := by simp; omega
            have n1 : (208 = 500000 + (x + 1)) = False := by simp; omega
            rcases y with _ | y
            · simp (config := {maxSteps := 2000000}) only [T_tab, kinvW_normal, kinvW_exit, kinvW_ret, refsF_len, rowF_len, r0, r1, b0, b1, n0, n1, go_sem, seval]
              refine ⟨by omega, x, weakF (by omega) ⟨rfl, ?_⟩ rfl (refs_ids0 (fun j hj => by rw [famL_row hj]; simp)) ?_ (famL_hi (by omega)), by omega, by omega⟩
              · simp only [go_sem, seval]
              · intro j hj
                show lkB (famL _ _ _ _) _ = _
                rw [famL_row hj, rowF_congr (h := T2 a b x j)]
                intro k hk
                simp only [T2, T3]
                by_cases e1 : x ≤ j
                · rw [if_pos (by omega), if_pos (by omega)]
                · rw [if_neg (by omega), if_neg (by omega)]
            · have e1 : ((y + 1 : Nat) : Int) - 1 = y := by omega
              have g0 : ∀ g d, (rowF (b.length + 1) g).getD (0 + y) d = .int .i64 (g y) := fun g d => by rw [Nat.zero_add]; exact rowF_get (by omega) d
              have g1 : ∀ g d, (rowF (b.length + 1) g).getD (0 + (y + 1)) d = .int .i64 (g (y + 1)) := fun g d => by rw [Nat.zero_add]; exact rowF_get (by omega) d
              rw [e1]
              simp (config := {maxSteps := 2000000}) only [T_tab, kinvW_normal, kinvW_exit, kinvW_ret, refsF_len, rowF_len, r0, r1, b0, b1, n0, n1, g0, g1, go_sem, seval]
              have q1 := lcI_range a b (x + 1) (y + 1)
              refine ⟨fun _ => ⟨by omega, by omega, fun he => ?_, fun he => ?_⟩, fun h => by omega⟩
              · rw [T3_at (i := x + 1) (by omega)]
                refine ⟨by omega, by omega, by omega, by omega, by omega, by omega, by omega, by omega, by omega, by omega, by omega, by omega, y, weak_cell (by omega) (by omega) (lcI_eq (by omega) (by omega) he).symm ⟨rfl, ?_⟩, by omega, by omega⟩
                simp only [go_sem, seval]
              · rw [T3_at (i := x + 1) (by omega), T3_at (i := x) (k := y + 1) (by omega)]
                refine ⟨by omega, by omega, by omega, by omega, by omega, by omega, by omega, by omega, by omega, by omega, by omega, by omega, by omega, by omega, by omega, y, weak_cell (by omega) (by omega) (lcI_ne (by omega) (by omega) he).symm ⟨rfl, ?_⟩, by omega, by omega⟩
                simp only [go_sem, seval]
        · have e : x = 0 := by omega
          subst e
          refine finW0r (st' := ⟨[(4, .ref 208 0 (a.length + 1) (a.length + 1))], [(208, .cells 1 false .nils ((List.range (a.length + 1)).map fun i => .list 1 (rowF (b.length + 1) fun k => (lcs (a.drop i) (b.drop k) : Nat))))]⟩) (.base ⟨⟨.inl ⟨rfl, by simp [idsOK, St.lk, lkB]⟩, trivial⟩, ⟨.inr (.inr ⟨1, false, .nils, refsF (a.length + 1) (b.length + 1), _, rfl, rfl, ?_⟩), trivial⟩, .inl (famL_hi (by omega))⟩) (fun _ => ?_) ?_
          · refine ⟨by rw [List.length_map, List.length_range, refsF_len], fun i v v' hv hv' => ?_⟩
            have hi := (List.getElem?_eq_some_iff.1 hv).1
            rw [refsF_len] at hi
            simp only [refsF, List.getElem?_map, List.getElem?_range hi, Option.map_some, Option.some.injEq] at hv hv'
            subst hv; subst hv'
            refine ⟨rfl, fun j u u' hu hu' => ?_⟩
            have hj := (List.getElem?_eq_some_iff.1 hu).1
            simp only [AV.cells, List.length_singleton] at hj
            obtain rfl : j = 0 := by omega
            simp only [AV.cells, List.getElem?_cons_zero, Option.some.injEq] at hu hu'
            subst hu; subst hu'
            refine .inr (.inr (.inl ⟨_, _, _, _, 1, false, .int .i64 0, rowF (b.length + 1) (T2 a b 0 i), rfl, famL_row hi, ?_, by rw [rowF_len], rowF_pure _ _, ?_⟩))
            · show (if 208 = 500000 + i then _ else none) = none
              rw [if_neg (by omega)]
            · rw [List.drop_zero, List.take_of_length_le (by rw [rowF_len]; omega)]
              exact congrArg (AV.list 1) (rowF_congr fun k hk => by rw [T2, if_pos (Nat.zero_le _), lcI]).symm
          · simp [renL, ren, tabAV]
          · simp only [rlOf, tabAV, go_sem, seval]
            exact ⟨by rw [List.take_of_length_le (by simp)], by simp⟩
end Go.Proofs.Try.Dif
