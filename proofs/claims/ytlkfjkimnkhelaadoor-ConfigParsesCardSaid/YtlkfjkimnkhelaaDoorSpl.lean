/- What stands between marks: Split of Go's library. No condition beyond those that a machine's numbers bring. -/
import Derived.Test.YtlkfjkimnkhelaaDoorLib
import Derived.Test.YtlkfjkimnkhelaaDoorOctT
set_option linter.unusedVariables false
set_option linter.unusedSimpArgs false
namespace Go.Mdl
open Go Go.Abs
def consHd (x : UInt8) : List (List UInt8) → List (List UInt8)
  | [] => [[x]]
  | w :: ws => (x :: w) :: ws
/-- What stands between marks. -/
def splitB (c : UInt8) : List UInt8 → List (List UInt8)
  | [] => [[]]
  | x :: r => if x = c then [] :: splitB c r else consHd x (splitB c r)
def cntB (c : UInt8) (s : List UInt8) : Nat := s.countP (fun x => decide (x = c))
theorem consHd_len (x : UInt8) (l : List (List UInt8)) (h : l ≠ []) : (consHd x l).length = l.length := by cases l with | nil => exact absurd rfl h | cons w ws => rfl
theorem splitB_ne (c : UInt8) : ∀ s, splitB c s ≠ []
  | [] => by simp [splitB]
  | x :: r => by
    simp only [splitB]
    split
    · simp
    · cases splitB c r <;> simp [consHd]
theorem splitB_len (c : UInt8) : ∀ s, (splitB c s).length = cntB c s + 1
  | [] => rfl
  | x :: r => by
    have ih := splitB_len c r
    simp only [splitB, cntB, List.countP_cons] at ih ⊢
    by_cases h : x = c
    · simp [h, ih]
    · rw [if_neg h, consHd_len _ _ (splitB_ne c r), ih]; simp [h]
theorem splitB_app {c : UInt8} : ∀ {cur r : List UInt8}, (∀ x ∈ cur, x ≠ c) → splitB c (cur ++ c :: r) = cur :: splitB c r
  | [], r, _ => by simp [splitB]
  | x :: cur, r, h => by
    rw [List.cons_append, splitB, if_neg (h x (by simp)), splitB_app (fun y hy => h y (by simp [hy]))]
    rfl
theorem splitB_no {c : UInt8} : ∀ {cur : List UInt8}, (∀ x ∈ cur, x ≠ c) → splitB c cur = [cur]
  | [], _ => rfl
  | x :: cur, h => by
    rw [splitB, if_neg (h x (by simp)), splitB_no (fun y hy => h y (by simp [hy]))]
    rfl
theorem splitB_free {c : UInt8} : ∀ {s w : List UInt8}, w ∈ splitB c s → ∀ x ∈ w, x ≠ c
  | [], w, h => by simp [splitB] at h; subst h; simp
  | y :: r, w, h => by
    simp only [splitB] at h
    split at h
    · rcases List.mem_cons.1 h with h | h
      · subst h; simp
      · exact splitB_free h
    · rename_i hy
      have ih := fun w (hw : w ∈ splitB c r) => splitB_free (s := r) hw
      cases hs : splitB c r with
      | nil => exact absurd hs (splitB_ne c r)
      | cons v vs =>
        rw [hs] at h ih
        rcases List.mem_cons.1 h with h | h
        · subst h
          intro x hx
          rcases List.mem_cons.1 hx with rfl | hx
          · exact hy
          · exact ih v (by simp) x hx
        · exact ih w (by simp [h])
theorem splitB_mem_len {c : UInt8} : ∀ {s w : List UInt8}, w ∈ splitB c s → w.length ≤ s.length
  | [], w, h => by simp [splitB] at h; subst h; simp
  | y :: r, w, h => by
    simp only [splitB] at h
    have ih := fun w (hw : w ∈ splitB c r) => splitB_mem_len (s := r) hw
    split at h
    · rcases List.mem_cons.1 h with h | h
      · subst h; simp
      · have := ih w h; simp only [List.length_cons]; omega
    · cases hs : splitB c r with
      | nil => exact absurd hs (splitB_ne c r)
      | cons v vs =>
        rw [hs] at h ih
        rcases List.mem_cons.1 h with h | h
        · subst h; have := ih v (by simp); simp only [List.length_cons]; omega
        · have := ih w (by simp [h]); simp only [List.length_cons]; omega
theorem upTo_free (c : UInt8) : ∀ s : List UInt8, ∀ x ∈ s.take (upTo c s), x ≠ c
  | [] => by simp [upTo]
  | y :: r => by
    intro x hx
    simp only [upTo] at hx
    split at hx
    · simp at hx
    · rename_i hy
      rw [List.take_succ_cons] at hx
      rcases List.mem_cons.1 hx with rfl | hx
      · exact hy
      · exact upTo_free c r x hx
end Go.Mdl
namespace Go.Mdl
open Go Go.Abs
theorem upTo_split {c : UInt8} : ∀ {s : List UInt8}, upTo c s < s.length → s = s.take (upTo c s) ++ c :: s.drop (upTo c s + 1)
  | [], h => by simp [upTo] at h
  | y :: r, h => by
    simp only [upTo] at h ⊢
    by_cases hy : y = c
    · subst hy; simp
    · rw [if_neg hy] at h ⊢
      simp only [List.length_cons] at h
      have := upTo_split (c := c) (s := r) (by omega)
      rw [List.take_succ_cons, List.cons_append, List.drop_succ_cons, ← this]
theorem splitB_first {c : UInt8} {s : List UInt8} (h : upTo c s < s.length) : splitB c s = s.take (upTo c s) :: splitB c (s.drop (upTo c s + 1)) := by
  conv => lhs; rw [upTo_split h]
  exact splitB_app (upTo_free c s)
theorem splitB_last {c : UInt8} {s : List UInt8} (h : ¬ upTo c s < s.length) : splitB c s = [s] := by
  have := upTo_free c s
  rw [List.take_of_length_le (by omega)] at this
  exact splitB_no this
theorem cntB_first {c : UInt8} {s : List UInt8} (h : upTo c s < s.length) : cntB c s = cntB c (s.drop (upTo c s + 1)) + 1 := by
  have h1 := splitB_len c s
  have h2 := splitB_len c (s.drop (upTo c s + 1))
  rw [splitB_first h, List.length_cons] at h1
  omega
theorem cntB_last {c : UInt8} {s : List UInt8} (h : ¬ upTo c s < s.length) : cntB c s = 0 := by
  have h1 := splitB_len c s
  rw [splitB_last h] at h1
  simp at h1; omega
theorem cntB_le (c : UInt8) (s : List UInt8) : cntB c s ≤ s.length := List.countP_le_length
theorem countByte_cntB (c : UInt8) : ∀ s : List UInt8, Lib.countByte s c = (cntB c s : Nat)
  | [] => rfl
  | b :: l => by
    have h := countByte_cntB c l
    simp only [Lib.countByte, cntB, List.countP_cons] at h ⊢
    by_cases e : b = c
    · subst e; simp [h]
    · simp [e, h]
theorem set_next {o : List (List UInt8)} {n : Nat} (h : o.length < n) (w : List UInt8) : ((o ++ List.replicate (n - o.length) []).map AV.str).set (0 + o.length) (.str w) = ((o ++ [w]) ++ List.replicate (n - (o ++ [w]).length) []).map .str := by
  rw [← List.map_set, Nat.zero_add, List.set_append_right _ _ (Nat.le_refl _), Nat.sub_self, List.length_append, List.length_singleton, show n - o.length = (n - (o.length + 1)) + 1 by omega, List.replicate_succ, List.set_cons_zero, List.append_assoc]
  rfl
end Go.Mdl
namespace Go.Proofs.Tryd.Lib
open Go Go.Abs Go.Proofs Go.Mdl

def T_specCountString : Tbl := fun g E args => nilT g E args
theorem T_specCountString_ok : TblOK Tryd.prog T_specCountString := nilT_ok
set_option maxRecDepth 100000 in
set_option maxHeartbeats 4000000 in
theorem specCountString (s : List UInt8) (c : UInt8) : SpecE Tryd.prog 80 [] [.str s, enc_u8 c] [] (.int .i64 (cntB c s : Nat)) := by
  intro w ok φ vs hh hl hr
  obtain ⟨v0, v1, rfl⟩ : ∃ v0 v1, vs = [v0, v1] := by
    match vs, hl with
    | [a, b], _ => exact ⟨a, b, rfl⟩
  have e0 := (hr 0 _ _ rfl rfl).strInv
  have e1 := (hr 1 _ _ rfl rfl).intInv
  subst e0 e1
  refine ⟨.value (.int .i64 (cntB c s : Nat)), w, ?_, _, ok, φ, rfl, PostE.same hh (.pure _ _ (.int _ _))⟩
  simp only [InvF, if_neg (show ¬ (80 : FuncId) = yldF by decide)]
  rw [run_callFunc_extern Tryd.func80 (by kernel_rfl) (by kernel_rfl) (by kernel_rfl) (e := Extern.BytealgCount.count) (by kernel_rfl), Go.Lib.run_countString]
  simp only [Result.andThen]
  rw [countByte_cntB]
  simp
def tb_specCountString : List Blk → List AV → Option (List Blk × AV × Prop)
  | [], [.str s, a1] => some ([], .int .i64 (cntB (dec_u8 a1) s : Nat), argOK a1 (enc_u8 (dec_u8 a1)))
  | _, _ => none
theorem tb_specCountString_ok : ∀ E args E' res p, tb_specCountString E args = some (E', res, p) → p → SpecE Tryd.prog 80 E args E' res := by
  intro E args E' res p h hp
  unfold tb_specCountString at h
  split at h
  · simp only [Option.some.injEq, Prod.mk.injEq] at h
    obtain ⟨rfl, rfl, rfl⟩ := h
    exact SpecE.args (specCountString _ _) (.cons (argOK.refl _) (.cons hp .nil))
  · cases h

def T_specCount1 : Tbl := fun g E args => (addT nilT 80 Go.Proofs.Tryd.Lib.tb_specCountString) g E args
theorem T_specCount1_ok : TblOK Tryd.prog T_specCount1 := (addT_ok nilT_ok (by decide +kernel) Go.Proofs.Tryd.Lib.tb_specCountString_ok)
set_option maxRecDepth 100000 in
set_option maxHeartbeats 4000000 in
theorem specCount1 (s : List UInt8) (c : UInt8) : SpecE Tryd.prog 56 [] [.str s, .str [c]] [] (.int .i64 (cntB c s : Nat)) := by
  refine specF0 (C := T_specCount1) (wr := false) (D := fun _ => []) (U := fun _ => none) (res := [.int .i64 (cntB c s : Nat)]) Tryd.Ty.mixed T_specCount1_ok Tryd.func56 (nA := 2) (by decide +kernel) rfl (fun _ => rfl) ?_
  simp only [Tryd.f56, bodyOf, rlOf]
  rw [W_V]
  simp (config := {maxSteps := 2000000}) only [T_specCount1, Go.Proofs.Tryd.Lib.tb_specCountString, go_sem, seval]
  (try simp (config := {maxSteps := 2000000}) only [gimp, impB, isT, go_sem, seval])
def tb_specCount1 : List Blk → List AV → Option (List Blk × AV × Prop)
  | [], [.str s, .str [c]] => some ([], .int .i64 (cntB c s : Nat), True)
  | _, _ => none
theorem tb_specCount1_ok : ∀ E args E' res p, tb_specCount1 E args = some (E', res, p) → p → SpecE Tryd.prog 56 E args E' res := by
  intro E args E' res p h hp
  unfold tb_specCount1 at h
  split at h
  · simp only [Option.some.injEq, Prod.mk.injEq] at h
    obtain ⟨rfl, rfl, rfl⟩ := h
    exact (specCount1 _ _)
  · cases h

def T_specIndexS : Tbl := fun g E args => (addT nilT 69 Go.Proofs.Tryd.Lib.tb_specIndex1) g E args
theorem T_specIndexS_ok : TblOK Tryd.prog T_specIndexS := (addT_ok nilT_ok (by decide +kernel) Go.Proofs.Tryd.Lib.tb_specIndex1_ok)
set_option maxRecDepth 100000 in
set_option maxHeartbeats 4000000 in
theorem specIndexS (s : List UInt8) (c : UInt8) (hs : s.length ≤ maxLen) : SpecE Tryd.prog 46 [] [.str s, .str [c]] [] (.int .i64 (idxB c s)) := by
  refine specF0 (C := T_specIndexS) (wr := false) (D := fun _ => []) (U := fun _ => none) (res := [.int .i64 (idxB c s)]) Tryd.Ty.mixed T_specIndexS_ok Tryd.func46 (nA := 2) (by decide +kernel) rfl (fun _ => rfl) ?_
  simp only [Tryd.f46, bodyOf, rlOf]
  rw [W_V]
  simp (config := {maxSteps := 2000000}) only [T_specIndexS, Go.Proofs.Tryd.Lib.tb_specIndex1, go_sem, seval]
  (try simp (config := {maxSteps := 2000000}) only [gimp, impB, isT, go_sem, seval])
  exact hs
def tb_specIndexS : List Blk → List AV → Option (List Blk × AV × Prop)
  | [], [.str s, .str [c]] => some ([], .int .i64 (idxB c s), (s.length ≤ maxLen))
  | _, _ => none
theorem tb_specIndexS_ok : ∀ E args E' res p, tb_specIndexS E args = some (E', res, p) → p → SpecE Tryd.prog 46 E args E' res := by
  intro E args E' res p h hp
  unfold tb_specIndexS at h
  split at h
  · simp only [Option.some.injEq, Prod.mk.injEq] at h
    obtain ⟨rfl, rfl, rfl⟩ := h
    exact (specIndexS _ _ hp)
  · cases h

def T_specGenSplit : Tbl := fun g E args => (addT (addT nilT 56 Go.Proofs.Tryd.Lib.tb_specCount1) 46 Go.Proofs.Tryd.Lib.tb_specIndexS) g E args
theorem T_specGenSplit_ok : TblOK Tryd.prog T_specGenSplit := (addT_ok (addT_ok nilT_ok (by decide +kernel) Go.Proofs.Tryd.Lib.tb_specCount1_ok) (by decide +kernel) Go.Proofs.Tryd.Lib.tb_specIndexS_ok)
set_option maxRecDepth 100000 in
set_option maxHeartbeats 4000000 in
theorem specGenSplit (s : List UInt8) (c : UInt8) (hs : s.length ≤ 100000000) : SpecE Tryd.prog 35 [] [.str s, .str [c], .int .i64 0, .int .i64 (-1)] [] (enc_strs (splitB c s)) := by
  refine specF0 (C := T_specGenSplit) (wr := false) (D := fun _ => []) (U := fun _ => none) (res := [enc_strs (splitB c s)]) Tryd.Ty.mixed T_specGenSplit_ok Tryd.func35 (nA := 4) (by decide +kernel) rfl (fun _ => rfl) ?_
  simp only [Tryd.f35, bodyOf, rlOf]
  rw [W_V]
  simp (config := {maxSteps := 2000000}) only [T_specGenSplit, Go.Proofs.Tryd.Lib.tb_specCount1, Go.Proofs.Tryd.Lib.tb_specIndexS, go_sem, seval]
  (try simp (config := {maxSteps := 2000000}) only [gimp, impB, isT, go_sem, seval])
  have hm : min (((cntB c s : Nat) : Int) + 1) ((s.length : Int) + 1) = ((cntB c s + 1 : Nat) : Int) := by have := cntB_le c s; omega
  have hcl := cntB_le c s
  rw [hm]
  refine ⟨by omega, by omega, by omega, by omega, ?_⟩
  refine VL_inv (X := List (List UInt8) × List UInt8) (fun x => ⟨[(0, .str x.2), (1, .str [c]), (2, .int .i64 0), (3, .int .i64 (cntB c s : Nat)), (9, .ref 512 0 (cntB c s + 1) (cntB c s + 1)), (10, .int .i64 x.1.length)],
    [(512, .cells 1 false (.str []) ((x.1 ++ List.replicate (cntB c s + 1 - x.1.length) []).map .str))]⟩)
    (fun x => x.1.length + cntB c x.2 = cntB c s ∧ splitB c s = x.1 ++ splitB c x.2 ∧ x.2.length ≤ s.length) (fun x => x.2.length) ([], s) ?_ ?_ ?_
  · simp only [T_specGenSplit, Go.Proofs.Tryd.Lib.tb_specCount1, Go.Proofs.Tryd.Lib.tb_specIndexS, go_sem, seval]
    exact ⟨by omega, by simp⟩
  · exact ⟨by simp, by simp, Nat.le_refl _⟩
  rintro ⟨o, r⟩ ⟨i1, i2, i3⟩
  simp only at i1 i2 i3
  simp (config := {maxSteps := 2000000}) only [T_specGenSplit, Go.Proofs.Tryd.Lib.tb_specCount1, Go.Proofs.Tryd.Lib.tb_specIndexS, go_sem, seval]
  (try simp (config := {maxSteps := 2000000}) only [gimp, impB, isT, go_sem, seval])
  have hl : (o ++ List.replicate (cntB c s + 1 - o.length) ([] : List UInt8)).length = cntB c s + 1 := by rw [List.length_append, List.length_replicate]; omega
  have st := fun (h : o.length < cntB c s + 1) w => set_next (o := o) (n := cntB c s + 1) h w
  have ll : ∀ w : List UInt8, ((o ++ [w]) ++ List.replicate (cntB c s + 1 - (o ++ [w]).length) ([] : List UInt8)).length = o.length + 1 + (cntB c s + 1 - (o.length + 1)) := fun w => by simp; omega
  have tk : ∀ w : List UInt8, List.take (o.length + 1) (((o ++ [w]) ++ List.replicate (cntB c s + 1 - (o ++ [w]).length) ([] : List UInt8)).map AV.str) = (o ++ [w]).map .str := fun w => by
    rw [← List.map_take, List.take_append_of_le_length (by simp), List.take_of_length_le (by simp)]
  have pu : ∀ l : List (List UInt8), pureEl (l.map AV.str) = true := fun l => pureEl_map _ _ (fun _ => rfl)
  refine ⟨fun hlt => ⟨by simp only [maxLen]; omega, fun hneg => ?_, fun hpos => ?_⟩, fun hge => ?_⟩
  · exfalso
    have h : ¬ upTo c r < r.length := fun h => by rw [idxB, if_pos h] at hneg; omega
    rw [cntB_last h] at i1
    omega
  · have h : upTo c r < r.length := by
      rcases Nat.lt_or_ge (upTo c r) r.length with h | h
      · exact h
      · rw [idxB, if_neg (by omega)] at hpos; omega
    have e : idxB c r = (upTo c r : Nat) := by rw [idxB, if_pos h]
    have e1 : (idxB c r + 1).toNat = upTo c r + 1 := by omega
    have e0 : (idxB c r + 0).toNat = upTo c r := by omega
    rw [e1, e0, hl]
    refine ⟨by omega, by omega, by omega, by omega, by omega, by omega, by omega, (o ++ [r.take (upTo c r)], r.drop (upTo c r + 1)), ⟨⟨rfl, by simp⟩, st (by omega) _⟩, ⟨?_, ?_, ?_⟩, ?_⟩
    · have := cntB_first h; simp only [List.length_append, List.length_singleton]; omega
    · simp only; rw [i2, splitB_first h, List.append_assoc]; rfl
    · simp only [List.length_drop]; omega
    · simp only [List.length_drop]; omega
  · have hc : cntB c r = 0 := by omega
    have h : ¬ upTo c r < r.length := fun h => by rw [cntB_first h] at hc; omega
    rw [hl, st (by omega), List.length_map, ll, tk, i2, splitB_last h]
    exact ⟨by omega, by omega, by omega, by omega, rfl, by omega, pu _⟩
def tb_specGenSplit : List Blk → List AV → Option (List Blk × AV × Prop)
  | [], [.str s, .str [c], .int .i64 0, .int .i64 (-1)] => some ([], enc_strs (splitB c s), (s.length ≤ 100000000))
  | _, _ => none
theorem tb_specGenSplit_ok : ∀ E args E' res p, tb_specGenSplit E args = some (E', res, p) → p → SpecE Tryd.prog 35 E args E' res := by
  intro E args E' res p h hp
  unfold tb_specGenSplit at h
  split at h
  · simp only [Option.some.injEq, Prod.mk.injEq] at h
    obtain ⟨rfl, rfl, rfl⟩ := h
    exact (specGenSplit _ _ hp)
  · cases h

def T_specSplit : Tbl := fun g E args => (addT nilT 35 Go.Proofs.Tryd.Lib.tb_specGenSplit) g E args
theorem T_specSplit_ok : TblOK Tryd.prog T_specSplit := (addT_ok nilT_ok (by decide +kernel) Go.Proofs.Tryd.Lib.tb_specGenSplit_ok)
set_option maxRecDepth 100000 in
set_option maxHeartbeats 4000000 in
theorem specSplit (s : List UInt8) (c : UInt8) (hs : s.length ≤ 100000000) : SpecE Tryd.prog 17 [] [.str s, .str [c]] [] (enc_strs (splitB c s)) := by
  refine specF0 (C := T_specSplit) (wr := false) (D := fun _ => []) (U := fun _ => none) (res := [enc_strs (splitB c s)]) Tryd.Ty.mixed T_specSplit_ok Tryd.func17 (nA := 2) (by decide +kernel) rfl (fun _ => rfl) ?_
  simp only [Tryd.f17, bodyOf, rlOf]
  rw [W_V]
  simp (config := {maxSteps := 2000000}) only [T_specSplit, Go.Proofs.Tryd.Lib.tb_specGenSplit, go_sem, seval]
  (try simp (config := {maxSteps := 2000000}) only [gimp, impB, isT, go_sem, seval])
  exact hs
def tb_specSplit : List Blk → List AV → Option (List Blk × AV × Prop)
  | [], [.str s, .str [c]] => some ([], enc_strs (splitB c s), (s.length ≤ 100000000))
  | _, _ => none
theorem tb_specSplit_ok : ∀ E args E' res p, tb_specSplit E args = some (E', res, p) → p → SpecE Tryd.prog 17 E args E' res := by
  intro E args E' res p h hp
  unfold tb_specSplit at h
  split at h
  · simp only [Option.some.injEq, Prod.mk.injEq] at h
    obtain ⟨rfl, rfl, rfl⟩ := h
    exact (specSplit _ _ hp)
  · cases h
end Go.Proofs.Tryd.Lib
