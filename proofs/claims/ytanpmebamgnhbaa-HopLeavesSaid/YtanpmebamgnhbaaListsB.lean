/- lists: the statements' walks. No condition beyond those that a machine's numbers bring. -/
import Derived.Test.YtanpmebamgnhbaaLists
import Derived.Test.YtanpmebamgnhbaaListsR
set_option linter.unusedVariables false
set_option linter.unusedSimpArgs false
namespace Go.Mdl
open Go Go.Abs
theorem join_eq : ∀ l : List (List UInt8), Lib.join l [44, 32] = joinS l
  | [] => rfl
  | [a] => by simp [Lib.join, joinS, List.intercalate]
  | a :: b :: r => by
    have ih := join_eq (b :: r)
    simp only [Lib.join, List.intercalate, List.intersperse, List.flatten_cons, joinS] at ih ⊢
    rw [ih]; simp

/-! ### split, joined, split again -/
/-- No comma parts. -/
def noTop : Scan → List UInt8 → Bool
  | _, [] => true
  | x, c :: r => !(decide (c = 44) && x.closed) && noTop (x.see c) r
theorem noTop_append : ∀ (x : Scan) (a b : List UInt8), noTop x (a ++ b) = (noTop x a && noTop (x.run a) b)
  | x, [], b => by simp [noTop, Scan.run]
  | x, c :: a, b => by
    simp only [List.cons_append, noTop, noTop_append (x.see c) a b, Scan.run_cons, Bool.and_assoc]
theorem elems_noTop : ∀ {x : Scan} {a r : List UInt8} (cur : List UInt8), noTop x a = true → elemsGo x cur (a ++ r) = elemsGo (x.run a) (cur ++ a) r
  | x, [], r, cur, _ => by simp [Scan.run]
  | x, c :: a, r, cur, h => by
    simp only [noTop, Bool.and_eq_true, Bool.not_eq_true', Bool.and_eq_false_iff, decide_eq_false_iff_not] at h
    rw [List.cons_append, elemsGo_cons, if_neg (fun e => by
      rcases h.1 with h1 | h1
      · exact h1 e.1
      · rw [e.2] at h1; cases h1), elems_noTop _ h.2, Scan.run_cons]
    simp
/-- What stands between commas. -/
def Atom (e : List UInt8) : Prop := scan0.run e = scan0 ∧ noTop scan0 e = true
theorem elems_atom : ∀ {x : Scan} {l cur : List UInt8}, scan0.run cur = x → noTop scan0 cur = true → (x.run l).closed = true → ∀ a ∈ elemsGo x cur l, Atom a
  | x, [], cur, h1, h2, h3, a, ha => by
    simp only [elemsGo, List.mem_singleton] at ha
    subst ha
    exact ⟨by rw [h1]; exact Scan.closed_iff.1 h3, h2⟩
  | x, c :: r, cur, h1, h2, h3, a, ha => by
    rw [elemsGo_cons] at ha
    split at ha
    · rename_i hc
      have hx := Scan.closed_iff.1 hc.2
      rcases List.mem_cons.1 ha with e | ha
      · subst e; exact ⟨by rw [h1, hx], h2⟩
      · refine elems_atom (x := x) (cur := []) (by rw [hx]; rfl) rfl ?_ a ha
        rw [Scan.run_cons, hx, hc.1, see_top (by decide) (by decide)] at h3
        rw [hx]; exact h3
    · rename_i hc
      refine elems_atom (x := x.see c) (cur := cur ++ [c]) (by rw [Scan.run_append, h1]; rfl) ?_ h3 a ha
      rw [noTop_append, h2, h1]
      simp only [noTop, Bool.and_true, Bool.true_and, Bool.not_eq_true', Bool.and_eq_false_iff, decide_eq_false_iff_not]
      by_cases e : c = 44
      · right; rw [← Bool.not_eq_true]; exact fun h => hc ⟨e, h⟩
      · exact .inl e
/-- Behind a backslash something is open. -/
def Scan.fine (x : Scan) : Prop := x.s = true → x.q = true ∨ 0 < x.d
theorem Scan.fine_see {x : Scan} (h : x.fine) (c : UInt8) : (x.see c).fine := by
  obtain ⟨q, s, d⟩ := x
  simp only [Scan.fine, Scan.see] at h ⊢
  (repeat' split) <;> simp_all
theorem Scan.fine_run : ∀ (l : List UInt8) {x : Scan}, x.fine → (x.run l).fine
  | [], x, h => h
  | c :: r, x, h => Scan.fine_run r (Scan.fine_see h c)
theorem see_blank {x : Scan} (h : x.fine) {c : UInt8} (hb : blankB c = true) (hc : (x.see c).closed = true) : x = scan0 := by
  have hc' : c = 32 ∨ c = 9 := by simpa [blankB] using hb
  obtain ⟨q, s, d⟩ := x
  have e := Scan.closed_iff.1 hc
  simp only [Scan.see, scan0] at e
  simp only [Scan.fine] at h
  rcases hc' with rfl | rfl <;> (cases s <;> cases q <;> simp_all [scan0])
theorem run_blanks : ∀ {l : List UInt8} {x : Scan}, x.fine → l.all blankB = true → (x.run l).closed = true → x = scan0
  | [], x, _, _, hc => Scan.closed_iff.1 hc
  | c :: r, x, h, hb, hc => by
    simp only [List.all_cons, Bool.and_eq_true] at hb
    have h1 := run_blanks (Scan.fine_see h c) hb.2 hc
    exact see_blank h hb.1 (by rw [h1]; rfl)
theorem run_blanks0 : ∀ {l : List UInt8}, l.all blankB = true → scan0.run l = scan0
  | [], _ => rfl
  | c :: r, h => by
    simp only [List.all_cons, Bool.and_eq_true] at h
    have hc : c = 32 ∨ c = 9 := by simpa [blankB] using h.1
    rw [Scan.run_cons, see_top (by rcases hc with rfl | rfl <;> decide) (by rcases hc with rfl | rfl <;> decide)]
    exact run_blanks0 h.2
theorem trim_parts (s : List UInt8) : ∃ a b, s = a ++ (trimS s ++ b) ∧ a.all blankB = true ∧ b.all blankB = true := by
  refine ⟨s.takeWhile blankB, ((trimL s).reverse.takeWhile blankB).reverse, ?_, List.all_takeWhile, by rw [List.all_reverse]; exact List.all_takeWhile⟩
  have h1 : trimL s = trimR (trimL s) ++ ((trimL s).reverse.takeWhile blankB).reverse := by
    have := List.takeWhile_append_dropWhile (p := blankB) (l := (trimL s).reverse)
    have := congrArg List.reverse this
    rw [List.reverse_append, List.reverse_reverse] at this
    exact this.symm
  have h2 : s = s.takeWhile blankB ++ trimL s := List.takeWhile_append_dropWhile.symm
  conv => lhs; rw [h2, h1]
  rfl
theorem atom_trim {a : List UInt8} (h : Atom a) : Atom (trimS a) := by
  obtain ⟨p, q, e, hp, hq⟩ := trim_parts a
  obtain ⟨h1, h2⟩ := h
  rw [e, Scan.run_append, run_blanks0 hp, Scan.run_append] at h1
  rw [e, noTop_append, run_blanks0 hp, noTop_append] at h2
  simp only [Bool.and_eq_true] at h2
  exact ⟨run_blanks (Scan.fine_run _ (by intro h; cases h)) hq (by rw [h1]; rfl), h2.2.1⟩
theorem dropWhile_head {p : UInt8 → Bool} : ∀ {s : List UInt8} {a : UInt8} {r : List UInt8}, s.dropWhile p = a :: r → p a = false
  | [], a, r, h => by simp at h
  | c :: s, a, r, h => by
    rw [List.dropWhile_cons] at h
    split at h
    · exact dropWhile_head h
    · rename_i hc; cases h; simpa using hc
theorem trimL_idem (s : List UInt8) : trimL (trimL s) = trimL s := by
  refine trimL_none (fun h => ?_)
  unfold trimL at h ⊢
  cases hd : s.dropWhile blankB with
  | nil => rw [hd] at h; simp at h
  | cons a r => simpa using dropWhile_head hd
theorem trimR_nil_or (s : List UInt8) (h : 0 < (trimR s).length) : blankB ((trimR s).getD ((trimR s).length - 1) 0) = false := by
  unfold trimR at h ⊢
  cases hd : s.reverse.dropWhile blankB with
  | nil => rw [hd] at h; simp at h
  | cons a r => simpa using dropWhile_head hd
theorem trimR_first {s : List UInt8} (h : 0 < (trimR s).length) : (trimR s).getD 0 0 = s.getD 0 0 := by
  have hp : trimR s <+: s := by
    unfold trimR
    have := List.dropWhile_suffix blankB (l := s.reverse)
    have := List.reverse_prefix.2 this
    simpa using this
  obtain ⟨t, ht⟩ := hp
  have e : s.getD 0 0 = (trimR s ++ t).getD 0 0 := by rw [ht]
  rw [e]
  simp only [List.getD_eq_getElem?_getD]
  rw [List.getElem?_append_left h]
theorem trimS_idem (s : List UInt8) : trimS (trimS s) = trimS s := by
  have h1 : trimL (trimS s) = trimS s := by
    refine trimL_none (fun h => ?_)
    unfold trimS at h ⊢
    rw [trimR_first h]
    have h0 : 0 < (trimL s).length := by
      have := (List.dropWhile_sublist blankB (l := (trimL s).reverse)).length_le
      simp only [trimR, List.length_reverse] at h this
      omega
    have := trimL_idem s
    cases hd : trimL s with
    | nil => rw [hd] at h0; simp at h0
    | cons a r =>
      rw [hd] at this
      simp only [List.getD_cons_zero]
      rw [← Bool.not_eq_true]
      intro hb
      have e : trimL (a :: r) = trimL r := by simp [trimL, hb]
      rw [e] at this
      have hl := trimL_len r
      rw [this] at hl; simp at hl; omega
  show trimR (trimL (trimS s)) = trimS s
  rw [h1]
  exact trimR_none (fun h => trimR_nil_or _ h)
theorem trim_cons {c : UInt8} {e : List UInt8} (h : blankB c = true) : trimS (c :: e) = trimS e := by simp [trimS, trimL, h]
theorem keep_lead {c : UInt8} (hb : blankB c = true) : ∀ {x : Scan} {l cur : List UInt8}, keepE (elemsGo x (c :: cur) l) = keepE (elemsGo x cur l)
  | x, [], cur => by
    have h := trim_cons (e := cur) hb
    simp only [elemsGo, keepE_one, h]
  | x, d :: r, cur => by
    rw [elemsGo_cons, elemsGo_cons]
    split
    · have h := trim_cons (e := cur) hb
      have e1 : ∀ (a : List UInt8) (t : List (List UInt8)), keepE (a :: t) = keepE [a] ++ keepE t := fun a t => keepE_append [a] t
      rw [e1, e1 cur, keepE_one, keepE_one, h]
    · exact keep_lead hb
theorem split_join : ∀ {l : List (List UInt8)}, (∀ e ∈ l, Atom e ∧ trimS e = e ∧ e ≠ []) → scan0.run (joinS l) = scan0 ∧ keepE (elemsGo scan0 [] (joinS l)) = l
  | [], _ => ⟨rfl, by decide⟩
  | [a], h => by
    obtain ⟨⟨h1, h2⟩, h3, h4⟩ := h a (by simp)
    refine ⟨h1, ?_⟩
    have := elems_noTop (r := []) [] h2
    simp only [List.append_nil, List.nil_append, elemsGo] at this
    show keepE (elemsGo scan0 [] a) = [a]
    rw [this, keepE_one, h3, if_neg h4]
  | a :: b :: r, h => by
    obtain ⟨⟨h1, h2⟩, h3, h4⟩ := h a (by simp)
    obtain ⟨i1, i2⟩ := split_join (l := b :: r) (fun e he => h e (List.mem_cons_of_mem _ he))
    have s44 : scan0.see 44 = scan0 := rfl
    have s32 : scan0.see 32 = scan0 := rfl
    refine ⟨?_, ?_⟩
    · show scan0.run (a ++ (44 :: 32 :: joinS (b :: r))) = scan0
      rw [Scan.run_append, h1, Scan.run_cons, s44, Scan.run_cons, s32, i1]
    · show keepE (elemsGo scan0 [] (a ++ (44 :: 32 :: joinS (b :: r)))) = _
      rw [elems_noTop [] h2, h1, elemsGo_cons, if_pos ⟨rfl, rfl⟩, elemsGo_cons, if_neg (fun e => absurd e.1 (by decide)), s32]
      have e1 : ∀ (a : List UInt8) (t : List (List UInt8)), keepE (a :: t) = keepE [a] ++ keepE t := fun a t => keepE_append [a] t
      rw [e1, List.nil_append, List.nil_append, keepE_one, h3, if_neg h4, keep_lead (c := 32) (by decide), i2]; rfl
theorem split_atoms {s : List UInt8} : ∀ e ∈ splitS s, Atom e ∧ trimS e = e ∧ e ≠ [] := by
  intro e he
  unfold splitS at he
  split at he
  · rename_i hend
    obtain ⟨a, ha, rfl, hne⟩ := keepE_mem.1 he
    exact ⟨atom_trim (elems_atom (x := scan0) (cur := []) rfl rfl hend a ha), trimS_idem a, hne⟩
  · simp at he
/-- What is split and joined is the same when split again. -/
theorem split_back (s : List UInt8) : endsS (joinS (splitS s)) = true ∧ splitS (joinS (splitS s)) = splitS s := by
  obtain ⟨h1, h2⟩ := split_join (split_atoms (s := s))
  have h3 : endsS (joinS (splitS s)) = true := by unfold endsS; rw [h1]; rfl
  have h4 : splitS (joinS (splitS s)) = keepE (elemsS (joinS (splitS s))) := by
    generalize joinS (splitS s) = j at *
    unfold splitS; rw [if_pos h3]
  exact ⟨h3, by rw [h4]; exact h2⟩
end Go.Mdl
namespace Go.Proofs.Try.Lists
open Go Go.Abs Go.Proofs Go.Mdl

def T_specLives : Tbl := fun g E args => (addT (addT (addT (addT nilT 35 Go.Proofs.Try.Lists.tb_specSplit) 37 Go.Proofs.Try.Oct.tb_specSame) 41 Go.Proofs.Try.Lists.tb_specJoin) 38 Go.Proofs.Try.Lists.tb_specHas) g E args
theorem T_specLives_ok : TblOK Try.prog T_specLives := (addT_ok (addT_ok (addT_ok (addT_ok nilT_ok (by decide +kernel) Go.Proofs.Try.Lists.tb_specSplit_ok) (by decide +kernel) Go.Proofs.Try.Oct.tb_specSame_ok) (by decide +kernel) Go.Proofs.Try.Lists.tb_specJoin_ok) (by decide +kernel) Go.Proofs.Try.Lists.tb_specHas_ok)
set_option maxRecDepth 100000 in
set_option maxHeartbeats 4000000 in
theorem specLives : SpecE Try.prog 40 [] [] [] (.bool true) := by
  refine specF0 (C := T_specLives) (wr := false) (D := fun _ => []) (U := fun _ => none) (res := [.bool true]) Try.Ty.mixed T_specLives_ok Try.func40 (nA := 0) (by decide +kernel) rfl (fun _ => rfl) ?_
  simp only [Try.f40, bodyOf, rlOf]
  rw [W_V]
  simp (config := {maxSteps := 2000000}) only [T_specLives, Go.Proofs.Try.Lists.tb_specSplit, Go.Proofs.Try.Oct.tb_specSame, Go.Proofs.Try.Lists.tb_specJoin, Go.Proofs.Try.Lists.tb_specHas, go_sem, reduceIte, Nat.reduceEqDiff, Nat.reduceAdd, Nat.reduceMul, Nat.reduceSub, Nat.reduceBEq, Nat.reduceLT, Nat.reduceLeDiff, reduceCtorEq, Int.reduceNeg, Int.reduceEq, String.reduceEq, Int.reduceLT, Int.reduceLE, Int.reduceToNat, Int.reduceAdd, Int.reduceMul, Int.reduceSub]
  (try simp (config := {maxSteps := 2000000}) only [gimp, impB, isT, go_sem, reduceIte, Nat.reduceEqDiff, Nat.reduceAdd, Nat.reduceMul, Nat.reduceSub, Nat.reduceBEq, Nat.reduceLT, Nat.reduceLeDiff, reduceCtorEq, Int.reduceNeg, Int.reduceEq, String.reduceEq, Int.reduceLT, Int.reduceLE, Int.reduceToNat, Int.reduceAdd, Int.reduceMul, Int.reduceSub])
  have e1 : endsS [97, 44, 32, 34, 98, 44, 99, 34, 32, 40, 100, 44, 101, 41, 44, 44, 102] = true := by decide +kernel
  have e2 : splitS [97, 44, 32, 34, 98, 44, 99, 34, 32, 40, 100, 44, 101, 41, 44, 44, 102] = [[97], [34, 98, 44, 99, 34, 32, 40, 100, 44, 101, 41], [102]] := by decide +kernel
  have e3 : hasS [97, 44, 66] [98] = true := by decide +kernel
  simp [e1, e2, e3, join_eq, joinS]
def tb_specLives : List Blk → List AV → Option (List Blk × AV × Prop)
  | [], [] => some ([], .bool true, True)
  | _, _ => none
theorem tb_specLives_ok : ∀ E args E' res p, tb_specLives E args = some (E', res, p) → p → SpecE Try.prog 40 E args E' res := by
  intro E args E' res p h hp
  unfold tb_specLives at h
  split at h
  · simp only [Option.some.injEq, Prod.mk.injEq] at h
    obtain ⟨rfl, rfl, rfl⟩ := h
    exact specLives
  · cases h

def T_specLawSplit : Tbl := fun g E args => (addT (addT (addT (addT (addT (addT nilT 35 Go.Proofs.Try.Lists.tb_specSplit) 36 Go.Proofs.Try.Lists.tb_specSplitR) 37 Go.Proofs.Try.Oct.tb_specSame) 38 Go.Proofs.Try.Lists.tb_specHas) 39 Go.Proofs.Try.Lists.tb_specHasR) 40 Go.Proofs.Try.Lists.tb_specLives) g E args
theorem T_specLawSplit_ok : TblOK Try.prog T_specLawSplit := (addT_ok (addT_ok (addT_ok (addT_ok (addT_ok (addT_ok nilT_ok (by decide +kernel) Go.Proofs.Try.Lists.tb_specSplit_ok) (by decide +kernel) Go.Proofs.Try.Lists.tb_specSplitR_ok) (by decide +kernel) Go.Proofs.Try.Oct.tb_specSame_ok) (by decide +kernel) Go.Proofs.Try.Lists.tb_specHas_ok) (by decide +kernel) Go.Proofs.Try.Lists.tb_specHasR_ok) (by decide +kernel) Go.Proofs.Try.Lists.tb_specLives_ok)
set_option maxRecDepth 100000 in
set_option maxHeartbeats 4000000 in
theorem specLawSplit (s w : List UInt8) (hs : s.length ≤ maxLen) (hw : w.length ≤ maxLen) : SpecE Try.prog 3 [] [.str s, .str w] [] (.bool true) := by
  refine specF0 (C := T_specLawSplit) (wr := false) (D := fun _ => []) (U := fun _ => none) (res := [.bool true]) Try.Ty.mixed T_specLawSplit_ok Try.func3 (nA := 2) (by decide +kernel) rfl (fun _ => rfl) ?_
  simp only [Try.f3, bodyOf, rlOf]
  rw [W_V]
  simp (config := {maxSteps := 2000000}) only [T_specLawSplit, Go.Proofs.Try.Lists.tb_specSplit, Go.Proofs.Try.Lists.tb_specSplitR, Go.Proofs.Try.Oct.tb_specSame, Go.Proofs.Try.Lists.tb_specHas, Go.Proofs.Try.Lists.tb_specHasR, Go.Proofs.Try.Lists.tb_specLives, go_sem, reduceIte, Nat.reduceEqDiff, Nat.reduceAdd, Nat.reduceMul, Nat.reduceSub, Nat.reduceBEq, Nat.reduceLT, Nat.reduceLeDiff, reduceCtorEq, Int.reduceNeg, Int.reduceEq, String.reduceEq, Int.reduceLT, Int.reduceLE, Int.reduceToNat, Int.reduceAdd, Int.reduceMul, Int.reduceSub]
  (try simp (config := {maxSteps := 2000000}) only [gimp, impB, isT, go_sem, reduceIte, Nat.reduceEqDiff, Nat.reduceAdd, Nat.reduceMul, Nat.reduceSub, Nat.reduceBEq, Nat.reduceLT, Nat.reduceLeDiff, reduceCtorEq, Int.reduceNeg, Int.reduceEq, String.reduceEq, Int.reduceLT, Int.reduceLE, Int.reduceToNat, Int.reduceAdd, Int.reduceMul, Int.reduceSub])
  have h1 : (s.take 1000).length ≤ 1000 := by rw [List.length_take]; omega
  have h2 : (w.take 100).length ≤ 100 := by rw [List.length_take]; omega
  have h3 := splitS_count (s.take 1000)
  refine ⟨by omega, by omega, by omega, by omega, by omega, by omega⟩
def tb_specLawSplit : List Blk → List AV → Option (List Blk × AV × Prop)
  | [], [.str s, .str w] => some ([], .bool true, (s.length ≤ maxLen) ∧ (w.length ≤ maxLen))
  | _, _ => none
theorem tb_specLawSplit_ok : ∀ E args E' res p, tb_specLawSplit E args = some (E', res, p) → p → SpecE Try.prog 3 E args E' res := by
  intro E args E' res p h hp
  unfold tb_specLawSplit at h
  split at h
  · simp only [Option.some.injEq, Prod.mk.injEq] at h
    obtain ⟨rfl, rfl, rfl⟩ := h
    exact (specLawSplit _ _ hp.1 hp.2)
  · cases h

def T_specLawJoin : Tbl := fun g E args => (addT (addT (addT nilT 41 Go.Proofs.Try.Lists.tb_specJoin) 42 Go.Proofs.Try.Lists.tb_specJoinR) 40 Go.Proofs.Try.Lists.tb_specLives) g E args
theorem T_specLawJoin_ok : TblOK Try.prog T_specLawJoin := (addT_ok (addT_ok (addT_ok nilT_ok (by decide +kernel) Go.Proofs.Try.Lists.tb_specJoin_ok) (by decide +kernel) Go.Proofs.Try.Lists.tb_specJoinR_ok) (by decide +kernel) Go.Proofs.Try.Lists.tb_specLives_ok)
set_option maxRecDepth 100000 in
set_option maxHeartbeats 4000000 in
theorem specLawJoin (l : List (List UInt8)) (hl : l.length ≤ maxLen) (hq : ∀ x ∈ l, x.length ≤ maxLen) : SpecE Try.prog 4 [] [enc_strs l] [] (.bool true) := by
  refine specF0 (C := T_specLawJoin) (wr := false) (D := fun _ => []) (U := fun _ => none) (res := [.bool true]) Try.Ty.mixed T_specLawJoin_ok Try.func4 (nA := 1) (by decide +kernel) rfl (fun _ => rfl) ?_
  simp only [Try.f4, bodyOf, rlOf]
  rw [W_V]
  simp (config := {maxSteps := 2000000}) only [T_specLawJoin, Go.Proofs.Try.Lists.tb_specJoin, Go.Proofs.Try.Lists.tb_specJoinR, Go.Proofs.Try.Lists.tb_specLives, go_sem, reduceIte, Nat.reduceEqDiff, Nat.reduceAdd, Nat.reduceMul, Nat.reduceSub, Nat.reduceBEq, Nat.reduceLT, Nat.reduceLeDiff, reduceCtorEq, Int.reduceNeg, Int.reduceEq, String.reduceEq, Int.reduceLT, Int.reduceLE, Int.reduceToNat, Int.reduceAdd, Int.reduceMul, Int.reduceSub]
  (try simp (config := {maxSteps := 2000000}) only [gimp, impB, isT, go_sem, reduceIte, Nat.reduceEqDiff, Nat.reduceAdd, Nat.reduceMul, Nat.reduceSub, Nat.reduceBEq, Nat.reduceLT, Nat.reduceLeDiff, reduceCtorEq, Int.reduceNeg, Int.reduceEq, String.reduceEq, Int.reduceLT, Int.reduceLE, Int.reduceToNat, Int.reduceAdd, Int.reduceMul, Int.reduceSub])
  intro h50
  refine VL_inv (X := Nat) (fun k => ⟨[(0, enc_strs l), (9, enc_strs l), (10, .int .i64 l.length), (11, .int .i64 k)], []⟩) (fun k => k ≤ l.length ∧ ∀ e ∈ l.take k, e.length ≤ 100) (fun k => l.length - k) 0 ?_ ?_ ?_
  · simp only [go_sem, go_sem, reduceIte, Nat.reduceEqDiff, Nat.reduceAdd, Nat.reduceMul, Nat.reduceSub, Nat.reduceBEq, Nat.reduceLT, Nat.reduceLeDiff, reduceCtorEq, Int.reduceNeg, Int.reduceEq, String.reduceEq, Int.reduceLT, Int.reduceLE, Int.reduceToNat, Int.reduceAdd, Int.reduceMul, Int.reduceSub]
    try rfl
  · exact ⟨Nat.zero_le _, by simp⟩
  rintro k ⟨hk, hn⟩
  simp (config := {maxSteps := 2000000}) only [T_specLawJoin, Go.Proofs.Try.Lists.tb_specJoin, Go.Proofs.Try.Lists.tb_specJoinR, Go.Proofs.Try.Lists.tb_specLives, go_sem, reduceIte, Nat.reduceEqDiff, Nat.reduceAdd, Nat.reduceMul, Nat.reduceSub, Nat.reduceBEq, Nat.reduceLT, Nat.reduceLeDiff, reduceCtorEq, Int.reduceNeg, Int.reduceEq, String.reduceEq, Int.reduceLT, Int.reduceLE, Int.reduceToNat, Int.reduceAdd, Int.reduceMul, Int.reduceSub]
  (try simp (config := {maxSteps := 2000000}) only [gimp, impB, isT, go_sem, reduceIte, Nat.reduceEqDiff, Nat.reduceAdd, Nat.reduceMul, Nat.reduceSub, Nat.reduceBEq, Nat.reduceLT, Nat.reduceLeDiff, reduceCtorEq, Int.reduceNeg, Int.reduceEq, String.reduceEq, Int.reduceLT, Int.reduceLE, Int.reduceToNat, Int.reduceAdd, Int.reduceMul, Int.reduceSub])
  (repeat' (first | refine And.intro ?_ ?_ | intro _))
  all_goals (try first | omega | assumption | contradiction)
  · rename_i h1 h2
    refine ⟨k + 1, by omega, ⟨by omega, fun e he => ?_⟩, by omega⟩
    rw [take_succ_getD [] (by omega)] at he
    rcases List.mem_append.1 he with he | he
    · exact hn e he
    · simp only [List.mem_singleton] at he; subst he; omega
  · rename_i hge
    rw [List.take_of_length_le (by omega)] at hn
    have := joinS_len hn
    rw [join_eq]
    have := Nat.mul_le_mul (show l.length ≤ 50 by omega) (Nat.le_refl (100 + 2))
    omega
  · rename_i hge x hx
    rw [List.take_of_length_le (by omega)] at hn
    have := hn _ hx; omega
  · exact join_eq l
def tb_specLawJoin : List Blk → List AV → Option (List Blk × AV × Prop)
  | [], [a0] => some ([], .bool true, ((dec_strs a0).length ≤ maxLen) ∧ (∀ x ∈ (dec_strs a0), x.length ≤ maxLen) ∧ argOK a0 (enc_strs (dec_strs a0)))
  | _, _ => none
theorem tb_specLawJoin_ok : ∀ E args E' res p, tb_specLawJoin E args = some (E', res, p) → p → SpecE Try.prog 4 E args E' res := by
  intro E args E' res p h hp
  unfold tb_specLawJoin at h
  split at h
  · simp only [Option.some.injEq, Prod.mk.injEq] at h
    obtain ⟨rfl, rfl, rfl⟩ := h
    exact SpecE.args (specLawJoin _ hp.1 hp.2.1) (.cons hp.2.2 .nil)
  · cases h

def T_specLawBack : Tbl := fun g E args => (addT (addT (addT (addT (addT nilT 35 Go.Proofs.Try.Lists.tb_specSplit) 41 Go.Proofs.Try.Lists.tb_specJoin) 37 Go.Proofs.Try.Oct.tb_specSame) 38 Go.Proofs.Try.Lists.tb_specHas) 40 Go.Proofs.Try.Lists.tb_specLives) g E args
theorem T_specLawBack_ok : TblOK Try.prog T_specLawBack := (addT_ok (addT_ok (addT_ok (addT_ok (addT_ok nilT_ok (by decide +kernel) Go.Proofs.Try.Lists.tb_specSplit_ok) (by decide +kernel) Go.Proofs.Try.Lists.tb_specJoin_ok) (by decide +kernel) Go.Proofs.Try.Oct.tb_specSame_ok) (by decide +kernel) Go.Proofs.Try.Lists.tb_specHas_ok) (by decide +kernel) Go.Proofs.Try.Lists.tb_specLives_ok)
set_option maxRecDepth 100000 in
set_option maxHeartbeats 4000000 in
theorem specLawBack (s : List UInt8) (hs : s.length ≤ maxLen) : SpecE Try.prog 5 [] [.str s] [] (.bool true) := by
  refine specF0 (C := T_specLawBack) (wr := false) (D := fun _ => []) (U := fun _ => none) (res := [.bool true]) Try.Ty.mixed T_specLawBack_ok Try.func5 (nA := 1) (by decide +kernel) rfl (fun _ => rfl) ?_
  simp only [Try.f5, bodyOf, rlOf]
  rw [W_V]
  simp (config := {maxSteps := 2000000}) only [T_specLawBack, Go.Proofs.Try.Lists.tb_specSplit, Go.Proofs.Try.Lists.tb_specJoin, Go.Proofs.Try.Oct.tb_specSame, Go.Proofs.Try.Lists.tb_specHas, Go.Proofs.Try.Lists.tb_specLives, go_sem, reduceIte, Nat.reduceEqDiff, Nat.reduceAdd, Nat.reduceMul, Nat.reduceSub, Nat.reduceBEq, Nat.reduceLT, Nat.reduceLeDiff, reduceCtorEq, Int.reduceNeg, Int.reduceEq, String.reduceEq, Int.reduceLT, Int.reduceLE, Int.reduceToNat, Int.reduceAdd, Int.reduceMul, Int.reduceSub]
  (try simp (config := {maxSteps := 2000000}) only [gimp, impB, isT, go_sem, reduceIte, Nat.reduceEqDiff, Nat.reduceAdd, Nat.reduceMul, Nat.reduceSub, Nat.reduceBEq, Nat.reduceLT, Nat.reduceLeDiff, reduceCtorEq, Int.reduceNeg, Int.reduceEq, String.reduceEq, Int.reduceLT, Int.reduceLE, Int.reduceToNat, Int.reduceAdd, Int.reduceMul, Int.reduceSub])
  have h1 : (s.take 1000).length ≤ 1000 := by rw [List.length_take]; omega
  generalize s.take 1000 = t at *
  have h3 := splitS_count t
  have hj : (joinS (splitS t)).length ≤ (splitS t).length * (1000 + 2) := joinS_len (fun e he => Nat.le_trans (splitS_mem he).1 h1)
  have hj2 : (joinS (splitS t)).length ≤ 1001 * 1002 := Nat.le_trans hj (Nat.mul_le_mul (by omega) (Nat.le_refl _))
  rw [join_eq]
  obtain ⟨b1, b2⟩ := split_back t
  refine ⟨by omega, fun h => by simp [splitS, h], fun h => ⟨by omega, by omega, ?_⟩⟩
  rw [b1, b2]
  refine VL_inv (X := Nat) (fun k => ⟨[(0, .str t), (3, enc_strs (splitS t)), (5, enc_strs (splitS t)), (6, .bool true), (33, enc_strs (splitS t)), (34, .int .i64 (splitS t).length), (35, .int .i64 k)], []⟩) (fun k => k ≤ (splitS t).length) (fun k => (splitS t).length - k) 0 ?_ ?_ ?_
  · simp only [go_sem, go_sem, reduceIte, Nat.reduceEqDiff, Nat.reduceAdd, Nat.reduceMul, Nat.reduceSub, Nat.reduceBEq, Nat.reduceLT, Nat.reduceLeDiff, reduceCtorEq, Int.reduceNeg, Int.reduceEq, String.reduceEq, Int.reduceLT, Int.reduceLE, Int.reduceToNat, Int.reduceAdd, Int.reduceMul, Int.reduceSub]
    try rfl
  · exact Nat.zero_le _
  rintro k hk
  simp (config := {maxSteps := 2000000}) only [T_specLawBack, Go.Proofs.Try.Lists.tb_specSplit, Go.Proofs.Try.Lists.tb_specJoin, Go.Proofs.Try.Oct.tb_specSame, Go.Proofs.Try.Lists.tb_specHas, Go.Proofs.Try.Lists.tb_specLives, go_sem, reduceIte, Nat.reduceEqDiff, Nat.reduceAdd, Nat.reduceMul, Nat.reduceSub, Nat.reduceBEq, Nat.reduceLT, Nat.reduceLeDiff, reduceCtorEq, Int.reduceNeg, Int.reduceEq, String.reduceEq, Int.reduceLT, Int.reduceLE, Int.reduceToNat, Int.reduceAdd, Int.reduceMul, Int.reduceSub]
  (try simp (config := {maxSteps := 2000000}) only [gimp, impB, isT, go_sem, reduceIte, Nat.reduceEqDiff, Nat.reduceAdd, Nat.reduceMul, Nat.reduceSub, Nat.reduceBEq, Nat.reduceLT, Nat.reduceLeDiff, reduceCtorEq, Int.reduceNeg, Int.reduceEq, String.reduceEq, Int.reduceLT, Int.reduceLE, Int.reduceToNat, Int.reduceAdd, Int.reduceMul, Int.reduceSub])
  have hin : k < (splitS t).length → (splitS t).getD k [] ∈ splitS t := fun h => List.mem_of_getElem? (getD_of_lt (s := splitS t) (d := []) h)
  have hhas : k < (splitS t).length → hasS t ((splitS t).getD k []) = true := fun h => List.any_eq_true.2 ⟨_, hin h, by simp [foldS]⟩
  (repeat' (first | refine And.intro ?_ ?_ | intro _))
  all_goals (try first | omega | assumption | contradiction)
  · rename_i h1 h2
    rcases h2 with h2 | h2
    · exact (splitS_mem (hin (by omega))).2 h2
    · rw [hhas (by omega)] at h2; cases h2
  · exact ⟨k + 1, by omega, by omega, by omega⟩
def tb_specLawBack : List Blk → List AV → Option (List Blk × AV × Prop)
  | [], [.str s] => some ([], .bool true, (s.length ≤ maxLen))
  | _, _ => none
theorem tb_specLawBack_ok : ∀ E args E' res p, tb_specLawBack E args = some (E', res, p) → p → SpecE Try.prog 5 E args E' res := by
  intro E args E' res p h hp
  unfold tb_specLawBack at h
  split at h
  · simp only [Option.some.injEq, Prod.mk.injEq] at h
    obtain ⟨rfl, rfl, rfl⟩ := h
    exact (specLawBack _ hp)
  · cases h
end Go.Proofs.Try.Lists
