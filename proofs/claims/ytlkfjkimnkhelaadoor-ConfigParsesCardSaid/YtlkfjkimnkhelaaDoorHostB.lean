/- host: the walks of texts' names, parts and keys. No condition beyond those that a machine's numbers bring. -/
import Derived.Test.YtlkfjkimnkhelaaDoorHost
import Derived.Test.YtlkfjkimnkhelaaDoorDigB
import Derived.Test.YtlkfjkimnkhelaaDoorOctC
import Derived.Test.YtlkfjkimnkhelaaDoorLibS
set_option linter.unusedVariables false
set_option linter.unusedSimpArgs false
namespace Go.Mdl
open Go Go.Abs
theorem arr_get (s : List UInt8) (j : Nat) : (ByteArray.mk s.toArray).data[j]! = s.getD j 0 := by
  simp [List.getD_eq_getElem?_getD, getElem!_def]
  cases s[j]? <;> rfl
theorem last_up (c : UInt8) (s : List UInt8) : Lib.lastIndexByte ⟨s.toArray⟩ (c.toNat : Int) = lastUp c s := by
  have hnot : ∀ {t : List UInt8} , (∀ j, j < t.length → t.getD j 0 ≠ c) → c ∉ t := by
    intro t h hm
    obtain ⟨j, hj⟩ := List.getElem?_of_mem hm
    have hl := (List.getElem?_eq_some_iff.1 hj).1
    rw [getD_of_lt (d := 0) hl] at hj
    exact h j hl (Option.some.inj hj)
  have hsz : (ByteArray.mk s.toArray).size = s.length := by simp [ByteArray.size]
  rcases Lib.lastIdx_spec ⟨s.toArray⟩ (c.toNat : Int) s.length with ⟨h1, h2⟩ | ⟨i, hi, h1, h2, h3⟩
  · have hn : c ∉ s := hnot (fun j hj e => h2 j hj (by rw [arr_get, e]))
    show Lib.lastIdx _ _ (ByteArray.mk s.toArray).size = _
    rw [hsz, h1]
    rcases Int.lt_or_le (lastUp c s) 0 with h | h
    · have := lastUp_ge c s; omega
    · exact absurd (by rw [(lastUp_spec h).1]; simp) hn
  · show Lib.lastIdx _ _ (ByteArray.mk s.toArray).size = _
    rw [hsz, h1]
    rw [arr_get] at h2
    have hc : s.getD i 0 = c := UInt8.toNat.inj (by omega)
    have hn : c ∉ s.drop (i + 1) := hnot (fun j hj e => by
      rw [getD_drop] at e
      rw [List.length_drop] at hj
      exact h3 (i + 1 + j) (by omega) (by omega) (by rw [arr_get, e]))
    have e : s = s.take i ++ c :: s.drop (i + 1) := by
      have := drop_cons hi
      rw [hc] at this
      rw [← this, List.take_append_drop]
    conv => rhs; rw [e]
    rw [lastUp_at hn, List.length_take]; omega
def litI (r : Int) : Bool := hexI r || decide (r = 58) || decide (r = 46)
theorem lit_rune : RuneB litI litB false := by
  refine ⟨fun c _ => ?_, fun r h => ?_, fun c h => ?_⟩
  · simp only [litI, litB, hexB, u8_lit, Nat.reduceLT]
  · have : hexI r = false := by simp [hexI]; omega
    simp only [litI, this, Bool.false_or, Bool.or_eq_false_iff, decide_eq_false_iff_not]; omega
  · have h1 : hexI c.toNat = false := by simp [hexI]; omega
    have h2 : c ≠ 58 := by rintro rfl; revert h; decide
    have h3 : c ≠ 46 := by rintro rfl; revert h; decide
    simp [litB, hexB, h1, h2, h3]
/-- What is within brackets. -/
def inner (s : List UInt8) : List UInt8 := Lib.trimSuffix (Lib.trimPrefix s [91]) [93]
theorem lit_eq (s : List UInt8) : (Lib.hasPrefix s [91] && (inner s).all litB && Lib.hasSuffix (Lib.trimPrefix s [91]) [93] && !decide (inner s = [])) = litS s := by
  have hpre : ∀ {t : List UInt8} {c : UInt8}, Lib.hasPrefix t [c] = true ↔ ∃ r, t = c :: r := by
    intro t c
    simp only [Lib.hasPrefix, List.isPrefixOf_iff_prefix]
    constructor
    · rintro ⟨r, hr⟩; exact ⟨r, by simpa using hr.symm⟩
    · rintro ⟨r, rfl⟩; exact ⟨r, rfl⟩
  have hsuf : ∀ {t : List UInt8} {c : UInt8}, Lib.hasSuffix t [c] = true ↔ ∃ r, t = r ++ [c] := by
    intro t c
    simp only [Lib.hasSuffix, List.isSuffixOf_iff_suffix]
    constructor
    · rintro ⟨r, hr⟩; exact ⟨r, hr.symm⟩
    · rintro ⟨r, rfl⟩; exact ⟨r, rfl⟩
  rw [Bool.eq_iff_iff, lit_form]
  simp only [Bool.and_eq_true, Bool.not_eq_true', decide_eq_false_iff_not]
  constructor
  · rintro ⟨⟨⟨h1, h2⟩, h3⟩, h4⟩
    obtain ⟨r, rfl⟩ := hpre.1 h1
    have e1 : Lib.trimPrefix (91 :: r) [91] = r := by simp only [Lib.trimPrefix, h1, if_true]; rfl
    rw [e1] at h3
    obtain ⟨m, rfl⟩ := hsuf.1 h3
    have e2 : inner (91 :: (m ++ [93])) = m := by simp only [inner, e1, Lib.trimSuffix, h3, if_true]; simp
    rw [e2] at h2 h4
    exact ⟨m, h4, h2, rfl⟩
  · rintro ⟨m, h1, h2, rfl⟩
    have h3 : Lib.hasPrefix (91 :: (m ++ [93])) [91] = true := hpre.2 ⟨_, rfl⟩
    have e1 : Lib.trimPrefix (91 :: (m ++ [93])) [91] = m ++ [93] := by simp only [Lib.trimPrefix, h3, if_true]; rfl
    have h4 : Lib.hasSuffix (m ++ [93]) [93] = true := hsuf.2 ⟨_, rfl⟩
    have e2 : inner (91 :: (m ++ [93])) = m := by simp only [inner, e1, Lib.trimSuffix, h4, if_true]; simp
    rw [e1, e2]
    exact ⟨⟨⟨h3, h2⟩, h4⟩, h1⟩
theorem inner_len (s : List UInt8) : (inner s).length ≤ s.length := by
  have h1 : (Lib.trimPrefix s [91]).length ≤ s.length := by
    unfold Lib.trimPrefix; split
    · rw [List.length_drop]; omega
    · omega
  unfold inner
  generalize Lib.trimPrefix s [91] = t at *
  unfold Lib.trimSuffix; split
  · rw [List.length_take]; omega
  · omega
/-! ### the parts of a text that has a host -/
theorem host_ok {s : List UInt8} (h : hostErr s = 0) : hostName s = cutName s ∧ s ≠ [] ∧ nameS (cutName s) = true ∧ (cutHas s = false ∧ hostPort s = 80 ∨ cutHas s = true ∧ numErr 10 65535 (cutPort s) = 0 ∧ hostPort s = numVal 10 65535 (cutPort s)) := by
  have e1 : hostName s = cutName s := by simp [hostName, h]
  have e2 : hostPort s = if cutHas s = true then numVal 10 65535 (cutPort s) else 80 := by simp [hostPort, h]
  refine ⟨e1, ?_⟩
  unfold hostErr at h
  split at h
  · cases h
  · rename_i h0
    split at h
    · cases h
    · rename_i h1
      refine ⟨h0, by simpa using h1, ?_⟩
      split at h
      · rename_i h2
        exact .inl ⟨h2, by rw [e2, h2]; rfl⟩
      · rename_i h2
        have h2 : cutHas s = true := by simpa using h2
        split at h
        · rename_i h3
          exact .inr ⟨h2, h3, by rw [e2, h2]; rfl⟩
        · split at h <;> cases h
theorem host_bad {s : List UInt8} (h : hostErr s ≠ 0) : hostName s = [] ∧ hostPort s = 0 := by simp [hostName, hostPort, h]
theorem host_name_len (s : List UInt8) : (hostName s).length ≤ s.length := by
  unfold hostName
  split
  · unfold cutName; split
    · rw [List.length_take]; omega
    · omega
  · simp
theorem numVal_range {most : Int} (hm : 0 ≤ most) (s : List UInt8) : 0 ≤ numVal 10 most s ∧ numVal 10 most s ≤ most := by
  unfold numVal
  split
  · rename_i h
    unfold numErr at h
    split at h
    · cases h
    · split at h
      · rename_i h1
        split at h
        · cases h
        · exact ⟨numV_nonneg (by omega) _ h1, by omega⟩
      · cases h
  · omega
theorem host_port_range (s : List UInt8) : 0 ≤ hostPort s ∧ hostPort s ≤ 65535 := by
  have := numVal_range (most := 65535) (by omega) (cutPort s)
  unfold hostPort
  (repeat' split) <;> omega
/-! digits, and back -/
theorem numV_digs {b : Nat} (hb : b = 10 ∨ b = 16) : ∀ (f n : Nat), n < 2 ^ f → 1 ≤ f → numV b (digsF b f n) = n ∧ (digsF b f n).all (isDig b) = true
  | 0, n, _, h => by omega
  | f + 1, n, hn, _ => by
    have hd : ∀ m, m < b → digB (signN m) = (m : Int) := by
      have h16 : ∀ m, m < 16 → digB (signN m) = (m : Int) := by decide
      intro m hm; exact h16 m (by omega)
    have hdig : ∀ m, m < b → isDig b (signN m) = true := fun m hm => by rw [isDig_iff, hd m hm]; omega
    simp only [digsF]
    split
    · rename_i h
      refine ⟨?_, by simp only [List.all_cons, List.all_nil, hdig n h, Bool.and_true]⟩
      have := numV_cons (b := b) (signN n) []
      rw [this, hd n h]; simp [numV]
    · rename_i h
      have h1 := half_lt (b := b) (n := n) (f := f) (by omega) hn
      have hp : 1 ≤ n / b := (Nat.le_div_iff_mul_le (by omega)).2 (by omega)
      have f1 : 1 ≤ f := by
        cases f with
        | zero => simp at h1; omega
        | succ f => omega
      obtain ⟨i1, i2⟩ := numV_digs hb f (n / b) h1 f1
      have hm := Nat.mod_lt n (show b > 0 by omega)
      refine ⟨?_, by rw [List.all_append, i2]; simp only [List.all_cons, List.all_nil, hdig _ hm, Bool.and_true]⟩
      rw [numV_snoc, i1, hd _ hm]
      have := Nat.div_add_mod n b
      have e : ((n / b : Nat) : Int) * b = ((b * (n / b) : Nat) : Int) := by rw [Nat.mul_comm]; simp
      rw [e]; omega
theorem num_text {p most : Int} (h0 : 0 ≤ p) (h1 : p ≤ most) (h2 : p < 18446744073709551616) : numErr 10 most (textI p) = 0 ∧ numVal 10 most (textI p) = p := by
  have e : textI p = digs 10 p.natAbs := by unfold textI; rw [if_neg (by omega)]
  have hlt : p.natAbs < 2 ^ 70 := by
    have : (18446744073709551616 : Nat) ≤ 2 ^ 70 := by decide
    omega
  obtain ⟨i1, i2⟩ := numV_digs (b := 10) (.inl rfl) 70 p.natAbs hlt (by decide)
  have hpos := digs_pos 10 p.natAbs
  have hne : ¬ digs 10 p.natAbs = [] := fun e => by rw [e] at hpos; simp at hpos
  have i1' : numV 10 (digs 10 p.natAbs) = p := by
    have : numV ((10 : Nat) : Int) (digs 10 p.natAbs) = (p.natAbs : Int) := i1
    rw [show ((10 : Nat) : Int) = 10 from rfl] at this
    rw [this]; omega
  have i2' : (digs 10 p.natAbs).all (isDig 10) = true := i2
  rw [e]
  have := num_good (most := most) hne i2' (by rw [i1']; exact h1)
  exact ⟨this.1, by rw [this.2, i1']⟩
/-! small letters keep names names -/
theorem low_facts (c : UInt8) : hexB (lowerB c) = hexB c ∧ plainB (lowerB c) = plainB c ∧ litB (lowerB c) = litB c ∧ (lowerB c = 37 ↔ c = 37) ∧ lowerB (lowerB c) = lowerB c := by
  revert c
  apply u8_forall
  decide +kernel
theorem reg_low : ∀ (n : Nat) (s : List UInt8), regGo n (lowerS s) = regGo n s
  | n, [] => rfl
  | 0, c :: r => by
    obtain ⟨h1, h2, h3, h4, h5⟩ := low_facts c
    show regGo 0 (lowerB c :: lowerS r) = _
    by_cases e : c = 37
    · rw [h4.2 e, e, regGo_37, regGo_37]; exact reg_low 2 r
    · rw [regGo_plain _ (fun h => e (h4.1 h)), regGo_plain _ e, h2, reg_low 0 r]
  | n + 1, c :: r => by
    show regGo (n + 1) (lowerB c :: lowerS r) = _
    rw [regGo_owe, regGo_owe, (low_facts c).1, reg_low n r]
theorem lit_low {s : List UInt8} (h : litS s = true) : litS (lowerS s) = true := by
  obtain ⟨m, h1, h2, rfl⟩ := lit_form.1 h
  refine lit_form.2 ⟨lowerS m, fun e => h1 (by simpa [lowerS] using e), ?_, ?_⟩
  · rw [List.all_eq_true] at h2 ⊢
    intro x hx
    obtain ⟨y, hy, rfl⟩ := List.mem_map.1 hx
    rw [(low_facts y).2.2.1]; exact h2 y hy
  · simp only [lowerS, List.map_cons, List.map_append, List.map_nil]
    rfl
theorem name_low {s : List UInt8} (h : nameS s = true) : nameS (lowerS s) = true := by
  simp only [nameS, Bool.or_eq_true] at h ⊢
  rcases h with h | h
  · left
    simp only [regS, Bool.and_eq_true, Bool.not_eq_true', decide_eq_false_iff_not] at h ⊢
    exact ⟨fun e => h.1 (by simpa [lowerS] using e), by rw [reg_low]; exact h.2⟩
  · exact .inr (lit_low h)
theorem lowerS_idem (s : List UInt8) : lowerS (lowerS s) = lowerS s := by
  simp only [lowerS, List.map_map]
  apply List.map_congr_left
  intro c _
  exact (low_facts c).2.2.2.2
/-- A text of a name and a port is read as both. -/
theorem host_text {n : List UInt8} {p : Int} (hn : nameS n = true) (h0 : 0 ≤ p) (h1 : p ≤ 65535) : hostErr (hostText n p) = 0 ∧ hostName (hostText n p) = lowerS n ∧ hostPort (hostText n p) = p := by
  have hl := name_low hn
  have hne : lowerS n ≠ [] := by
    intro e; rw [e] at hl; revert hl; decide
  unfold hostText
  split
  · rename_i hp
    have hlen := name_len (t := []) hl (.inl rfl)
    rw [List.append_nil] at hlen
    obtain ⟨g1, g2, g3⟩ := host_whole hne hlen
    exact ⟨g1, by simp [hostName, g1, g3], by simp [hostPort, g1, g2, hp]⟩
  · rename_i hp
    have e : lowerS n ++ [58] ++ textI p = lowerS n ++ 58 :: textI p := by simp
    rw [e]
    have hlen := name_len (t := 58 :: textI p) hl (.inr ⟨_, rfl⟩)
    generalize ht : lowerS n ++ 58 :: textI p = t at *
    have htl : t.length = (lowerS n).length + 1 + (textI p).length := by rw [← ht]; simp; omega
    have hpos := List.length_pos_iff.2 hne
    have e1 : t.getD (nameLen t) 0 = 58 := by rw [hlen, ← ht, getD_append_ge 0 (Nat.le_refl _)]; simp
    have e2 : t.drop (nameLen t + 1) = textI p := by rw [hlen, ← ht, ← List.drop_drop, List.drop_left' rfl]; rfl
    have e3 : t.take (nameLen t) = lowerS n := by rw [hlen, ← ht, List.take_left' rfl]
    obtain ⟨n1, n2⟩ := num_text (most := 65535) h0 h1 (by omega)
    rcases host_port (s := t) (by omega) (by omega) e1 with ⟨g1, g2, g3, g4⟩ | ⟨_, g⟩
    · rw [e3] at g3
      rw [e2] at g4
      have ht0 : t ≠ [] := fun e => by rw [e] at htl; simp only [List.length_nil] at htl; omega
      have herr : hostErr t = 0 := by
        unfold hostErr
        rw [if_neg ht0, if_neg (by rw [g2]; simp), if_neg (by rw [g1]; simp), g4, if_pos n1]
      exact ⟨herr, by simp [hostName, herr, g3], by simp [hostPort, herr, g1, g4, n2]⟩
    · rw [e2, n1] at g; cases g
theorem hostText_len (n : List UInt8) (p : Int) : (hostText n p).length ≤ n.length + 72 := by
  have := textI_len p
  unfold hostText
  split
  · simp [lowerS]
  · simp [lowerS]; omega
end Go.Mdl
namespace Go.Proofs.Tryd.Host
open Go Go.Abs Go.Proofs Go.Mdl

def T_specLiteral : Tbl := fun g E args => (addT (addT (addT nilT 107 Go.Proofs.Tryd.Host.tb_specHex) 109 Go.Proofs.Tryd.Lib.tb_specCutPrefix) 110 Go.Proofs.Tryd.Lib.tb_specCutSuffix) g E args
theorem T_specLiteral_ok : TblOK Tryd.prog T_specLiteral := (addT_ok (addT_ok (addT_ok nilT_ok (by decide +kernel) Go.Proofs.Tryd.Host.tb_specHex_ok) (by decide +kernel) Go.Proofs.Tryd.Lib.tb_specCutPrefix_ok) (by decide +kernel) Go.Proofs.Tryd.Lib.tb_specCutSuffix_ok)
set_option maxRecDepth 100000 in
set_option maxHeartbeats 4000000 in
theorem specLiteral (s : List UInt8) (hs : s.length ≤ maxLen) : SpecE Tryd.prog 96 [] [.str s] [] (.bool (litS s)) := by
  refine specF0 (C := T_specLiteral) (wr := false) (D := fun _ => []) (U := fun _ => none) (res := [.bool (litS s)]) Tryd.Ty.mixed T_specLiteral_ok Tryd.func96 (nA := 1) (by decide +kernel) rfl (fun _ => rfl) ?_
  simp only [Tryd.f96, bodyOf, rlOf]
  rw [W_V]
  simp (config := {maxSteps := 2000000}) only [T_specLiteral, Go.Proofs.Tryd.Host.tb_specHex, Go.Proofs.Tryd.Lib.tb_specCutPrefix, Go.Proofs.Tryd.Lib.tb_specCutSuffix, go_sem, reduceIte, Nat.reduceEqDiff, Nat.reduceAdd, Nat.reduceMul, Nat.reduceDiv, Nat.reduceMod, Nat.reduceSub, Nat.reduceBEq, Nat.reduceLT, Nat.reduceLeDiff, reduceCtorEq, Int.reduceNeg, Int.reduceEq, String.reduceEq, Int.reduceLT, Int.reduceLE, Int.reduceToNat, Int.reduceAdd, Int.reduceMul, Int.reduceSub]
  (try simp (config := {maxSteps := 2000000}) only [gimp, impB, isT, go_sem, reduceIte, Nat.reduceEqDiff, Nat.reduceAdd, Nat.reduceMul, Nat.reduceDiv, Nat.reduceMod, Nat.reduceSub, Nat.reduceBEq, Nat.reduceLT, Nat.reduceLeDiff, reduceCtorEq, Int.reduceNeg, Int.reduceEq, String.reduceEq, Int.reduceLT, Int.reduceLE, Int.reduceToNat, Int.reduceAdd, Int.reduceMul, Int.reduceSub])
  have hil := inner_len s
  have hpl : (Lib.trimPrefix s [91]).length ≤ s.length := by
    unfold Lib.trimPrefix; split
    · rw [List.length_drop]; omega
    · omega
  refine ⟨by omega, ?_⟩
  rw [← lit_eq]
  rw [show Lib.trimSuffix (Lib.trimPrefix s [91]) [93] = inner s from rfl]
  generalize Lib.hasPrefix s [91] = ok0
  generalize hend : Lib.hasSuffix (Lib.trimPrefix s [91]) [93] = end0
  refine VL_inv (X := Nat × Bool) (fun x => ⟨[(3, .str (inner s)), (4, .bool x.2), (5, .bool end0), (19, .it 320)], [(320, .iter (inner s) x.1)]⟩) (fun x => x.1 ≤ (inner s).length ∧ (x.2 = true → ok0 = true ∧ ((inner s).take x.1).all litB = true) ∧ (x.2 = false → (ok0 && (inner s).all litB) = false)) (fun x => (inner s).length - x.1) (0, ok0) ?_ ?_ ?_
  · simp only [go_sem, go_sem, reduceIte, Nat.reduceEqDiff, Nat.reduceAdd, Nat.reduceMul, Nat.reduceDiv, Nat.reduceMod, Nat.reduceSub, Nat.reduceBEq, Nat.reduceLT, Nat.reduceLeDiff, reduceCtorEq, Int.reduceNeg, Int.reduceEq, String.reduceEq, Int.reduceLT, Int.reduceLE, Int.reduceToNat, Int.reduceAdd, Int.reduceMul, Int.reduceSub]
  · exact ⟨Nat.zero_le _, fun h => ⟨h, by simp⟩, fun h => by simp only at h; rw [h]; rfl⟩
  rintro ⟨x, ok⟩ ⟨hx, h1, h2⟩
  simp only at hx h1 h2
  generalize inner s = u at *
  simp (config := {maxSteps := 2000000}) only [T_specLiteral, Go.Proofs.Tryd.Host.tb_specHex, Go.Proofs.Tryd.Lib.tb_specCutPrefix, Go.Proofs.Tryd.Lib.tb_specCutSuffix, go_sem, reduceIte, Nat.reduceEqDiff, Nat.reduceAdd, Nat.reduceMul, Nat.reduceDiv, Nat.reduceMod, Nat.reduceSub, Nat.reduceBEq, Nat.reduceLT, Nat.reduceLeDiff, reduceCtorEq, Int.reduceNeg, Int.reduceEq, String.reduceEq, Int.reduceLT, Int.reduceLE, Int.reduceToNat, Int.reduceAdd, Int.reduceMul, Int.reduceSub]
  (try simp (config := {maxSteps := 2000000}) only [gimp, impB, isT, go_sem, reduceIte, Nat.reduceEqDiff, Nat.reduceAdd, Nat.reduceMul, Nat.reduceDiv, Nat.reduceMod, Nat.reduceSub, Nat.reduceBEq, Nat.reduceLT, Nat.reduceLeDiff, reduceCtorEq, Int.reduceNeg, Int.reduceEq, String.reduceEq, Int.reduceLT, Int.reduceLE, Int.reduceToNat, Int.reduceAdd, Int.reduceMul, Int.reduceSub])
  refine ⟨fun hlt => ⟨hlt, (x + (runeAt u x).2, ok && litI (runeAt u x).1), ⟨rfl, by rw [if_pos hlt]⟩, ⟨(rune_pos hlt).2.2, fun h => ?_, fun h => ?_⟩, by have := (rune_pos hlt).2; simp only; omega⟩, fun hge => ?_⟩
  · simp only [Bool.and_eq_true] at h
    obtain ⟨h3, h4⟩ := h1 h.1
    exact ⟨h3, (lit_rune.step hlt h4).1 h.2⟩
  · cases ok with
    | false => exact h2 rfl
    | true =>
      obtain ⟨h3, h4⟩ := h1 rfl
      rw [Bool.true_and] at h
      rw [(lit_rune.step hlt h4).2 h, Bool.and_false]
  · have : x = u.length := by omega
    subst this
    rw [List.take_length] at h1
    have : ok = (ok0 && u.all litB) := by
      cases ok with
      | false => exact (h2 rfl).symm
      | true => obtain ⟨h3, h4⟩ := h1 rfl; rw [h3, h4]; rfl
    rw [this]
def tb_specLiteral : List Blk → List AV → Option (List Blk × AV × Prop)
  | [], [.str s] => some ([], .bool (litS s), (s.length ≤ maxLen))
  | _, _ => none
theorem tb_specLiteral_ok : ∀ E args E' res p, tb_specLiteral E args = some (E', res, p) → p → SpecE Tryd.prog 96 E args E' res := by
  intro E args E' res p h hp
  unfold tb_specLiteral at h
  split at h
  · simp only [Option.some.injEq, Prod.mk.injEq] at h
    obtain ⟨rfl, rfl, rfl⟩ := h
    exact (specLiteral _ hp)
  · cases h

def T_specCut : Tbl := fun g E args => (addT (addT nilT 105 Go.Proofs.Tryd.Lib.tb_specLastIndexByte) 106 Go.Proofs.Tryd.Lib.tb_specIndexByte) g E args
theorem T_specCut_ok : TblOK Tryd.prog T_specCut := (addT_ok (addT_ok nilT_ok (by decide +kernel) Go.Proofs.Tryd.Lib.tb_specLastIndexByte_ok) (by decide +kernel) Go.Proofs.Tryd.Lib.tb_specIndexByte_ok)
set_option maxRecDepth 100000 in
set_option maxHeartbeats 4000000 in
theorem specCut (s : List UInt8) (hs : s.length ≤ 1000000) : SpecE Tryd.prog 94 [] [.str s] [] (.tuple [.str (cutName s), .str (cutPort s), .bool (cutHas s)]) := by
  refine specF0 (C := T_specCut) (wr := false) (D := fun _ => []) (U := fun _ => none) (res := [.str (cutName s), .str (cutPort s), .bool (cutHas s)]) Tryd.Ty.mixed T_specCut_ok Tryd.func94 (nA := 1) (by decide +kernel) rfl (fun _ => rfl) ?_
  simp only [Tryd.f94, bodyOf, rlOf]
  rw [W_V]
  simp (config := {maxSteps := 2000000}) only [T_specCut, Go.Proofs.Tryd.Lib.tb_specLastIndexByte, Go.Proofs.Tryd.Lib.tb_specIndexByte, go_sem, reduceIte, Nat.reduceEqDiff, Nat.reduceAdd, Nat.reduceMul, Nat.reduceDiv, Nat.reduceMod, Nat.reduceSub, Nat.reduceBEq, Nat.reduceLT, Nat.reduceLeDiff, reduceCtorEq, Int.reduceNeg, Int.reduceEq, String.reduceEq, Int.reduceLT, Int.reduceLE, Int.reduceToNat, Int.reduceAdd, Int.reduceMul, Int.reduceSub]
  (try simp (config := {maxSteps := 2000000}) only [gimp, impB, isT, go_sem, reduceIte, Nat.reduceEqDiff, Nat.reduceAdd, Nat.reduceMul, Nat.reduceDiv, Nat.reduceMod, Nat.reduceSub, Nat.reduceBEq, Nat.reduceLT, Nat.reduceLeDiff, reduceCtorEq, Int.reduceNeg, Int.reduceEq, String.reduceEq, Int.reduceLT, Int.reduceLE, Int.reduceToNat, Int.reduceAdd, Int.reduceMul, Int.reduceSub])
  have h1 := lastUp_lt 58 s
  have e1 : ((UInt8.ofNat 58).toNat : Int) = ((58 : UInt8).toNat : Int) := rfl
  rw [e1, last_up]
  have e2 : UInt8.ofNat 93 = (93 : UInt8) := rfl
  rw [e2]
  have hno : idxB 93 s ≤ lastUp 58 s → 0 ≤ lastUp 58 s → cutHas s = true := fun h h' => by simp [cutHas, h, h']
  have hyes : lastUp 58 s < idxB 93 s ∨ lastUp 58 s < 0 → cutHas s = false := fun h => by
    simp only [cutHas, decide_eq_false_iff_not]; omega
  refine ⟨⟨hs, rfl⟩, rfl, fun h => ?_, fun h h' => ⟨by omega, by omega, by omega, ?_, ?_, (hno h h').symm⟩⟩
  · have := cut_no (hyes h)
    exact ⟨this.1.symm, this.2.symm, (hyes h).symm⟩
  · simp only [cutName, hno h h', if_true]
  · simp only [cutPort, hno h h', if_true]
    congr 1; omega
def tb_specCut : List Blk → List AV → Option (List Blk × AV × Prop)
  | [], [.str s] => some ([], .tuple [.str (cutName s), .str (cutPort s), .bool (cutHas s)], (s.length ≤ 1000000))
  | _, _ => none
theorem tb_specCut_ok : ∀ E args E' res p, tb_specCut E args = some (E', res, p) → p → SpecE Tryd.prog 94 E args E' res := by
  intro E args E' res p h hp
  unfold tb_specCut at h
  split at h
  · simp only [Option.some.injEq, Prod.mk.injEq] at h
    obtain ⟨rfl, rfl, rfl⟩ := h
    exact (specCut _ hp)
  · cases h

def T_specParse : Tbl := fun g E args => (addT (addT (addT (addT nilT 95 Go.Proofs.Tryd.Host.tb_specRegistered) 96 Go.Proofs.Tryd.Host.tb_specLiteral) 94 Go.Proofs.Tryd.Host.tb_specCut) 19 Go.Proofs.Tryd.Dig.tb_specDec) g E args
theorem T_specParse_ok : TblOK Tryd.prog T_specParse := (addT_ok (addT_ok (addT_ok (addT_ok nilT_ok (by decide +kernel) Go.Proofs.Tryd.Host.tb_specRegistered_ok) (by decide +kernel) Go.Proofs.Tryd.Host.tb_specLiteral_ok) (by decide +kernel) Go.Proofs.Tryd.Host.tb_specCut_ok) (by decide +kernel) Go.Proofs.Tryd.Dig.tb_specDec_ok)
set_option maxRecDepth 100000 in
set_option maxHeartbeats 4000000 in
theorem specParse (s : List UInt8) (hs : s.length ≤ 1000000) : SpecE Tryd.prog 75 [] [.str s] [] (.tuple [.str (hostName s), .int .i64 (hostPort s), .int .i64 (hostErr s)]) := by
  refine specF0 (C := T_specParse) (wr := false) (D := fun _ => []) (U := fun _ => none) (res := [.str (hostName s), .int .i64 (hostPort s), .int .i64 (hostErr s)]) Tryd.Ty.mixed T_specParse_ok Tryd.func75 (nA := 1) (by decide +kernel) rfl (fun _ => rfl) ?_
  simp only [Tryd.f75, bodyOf, rlOf]
  rw [W_V]
  simp (config := {maxSteps := 2000000}) only [T_specParse, Go.Proofs.Tryd.Host.tb_specRegistered, Go.Proofs.Tryd.Host.tb_specLiteral, Go.Proofs.Tryd.Host.tb_specCut, Go.Proofs.Tryd.Dig.tb_specDec, go_sem, reduceIte, Nat.reduceEqDiff, Nat.reduceAdd, Nat.reduceMul, Nat.reduceDiv, Nat.reduceMod, Nat.reduceSub, Nat.reduceBEq, Nat.reduceLT, Nat.reduceLeDiff, reduceCtorEq, Int.reduceNeg, Int.reduceEq, String.reduceEq, Int.reduceLT, Int.reduceLE, Int.reduceToNat, Int.reduceAdd, Int.reduceMul, Int.reduceSub]
  (try simp (config := {maxSteps := 2000000}) only [gimp, impB, isT, go_sem, reduceIte, Nat.reduceEqDiff, Nat.reduceAdd, Nat.reduceMul, Nat.reduceDiv, Nat.reduceMod, Nat.reduceSub, Nat.reduceBEq, Nat.reduceLT, Nat.reduceLeDiff, reduceCtorEq, Int.reduceNeg, Int.reduceEq, String.reduceEq, Int.reduceLT, Int.reduceLE, Int.reduceToNat, Int.reduceAdd, Int.reduceMul, Int.reduceSub])
  have hcl : (cutName s).length ≤ s.length := by
    unfold cutName; split
    · rw [List.length_take]; omega
    · omega
  have hm : (1000000 : Nat) ≤ maxLen := by decide
  have bad : ∀ e : Int, e = hostErr s → e ≠ 0 → [] = hostName s ∧ 0 = hostPort s ∧ e = hostErr s := fun e h h' => by
    have := host_bad (s := s) (by rw [← h]; exact h')
    exact ⟨this.1.symm, this.2.symm, h⟩
  have good : 0 = hostErr s → cutName s = hostName s := fun h => (host_ok h.symm).1.symm
  refine ⟨fun h => bad 2 (by simp [hostErr, h]) (by decide), fun h0 => ⟨hs, fun _ => by omega, fun r1 r2 => bad 3 (by simp [hostErr, h0, nameS, r1, r2]) (by decide), fun hn => ?_⟩⟩
  have hn' : nameS (cutName s) = true := by
    simp only [nameS, Bool.or_eq_true]
    cases h1 : regS (cutName s) with
    | true => exact .inl rfl
    | false => rw [h1] at hn; right; simpa using hn
  refine ⟨fun hc => ?_, fun hc => ⟨fun he => ?_, fun he => ⟨fun h5 => ?_, fun h5 => ?_⟩⟩⟩
  · have e : hostErr s = 0 := by simp [hostErr, h0, hn', hc]
    exact ⟨good e.symm, by simp [hostPort, e, hc], e.symm⟩
  · have e : hostErr s = 0 := by simp [hostErr, h0, hn', hc, he]
    exact ⟨good e.symm, by simp [hostPort, e, hc], by rw [he, e]⟩
  · exact bad _ (by simp [hostErr, h0, hn', hc, h5]) he
  · exact bad 3 (by simp [hostErr, h0, hn', hc, he, h5]) (by decide)
def tb_specParse : List Blk → List AV → Option (List Blk × AV × Prop)
  | [], [.str s] => some ([], .tuple [.str (hostName s), .int .i64 (hostPort s), .int .i64 (hostErr s)], (s.length ≤ 1000000))
  | _, _ => none
theorem tb_specParse_ok : ∀ E args E' res p, tb_specParse E args = some (E', res, p) → p → SpecE Tryd.prog 75 E args E' res := by
  intro E args E' res p h hp
  unfold tb_specParse at h
  split at h
  · simp only [Option.some.injEq, Prod.mk.injEq] at h
    obtain ⟨rfl, rfl, rfl⟩ := h
    exact (specParse _ hp)
  · cases h

def T_specText : Tbl := fun g E args => (addT (addT nilT 98 Go.Proofs.Tryd.Oct.tb_specLower) 38 Go.Proofs.Tryd.Dig.tb_specText) g E args
theorem T_specText_ok : TblOK Tryd.prog T_specText := (addT_ok (addT_ok nilT_ok (by decide +kernel) Go.Proofs.Tryd.Oct.tb_specLower_ok) (by decide +kernel) Go.Proofs.Tryd.Dig.tb_specText_ok)
set_option maxRecDepth 100000 in
set_option maxHeartbeats 4000000 in
theorem specText (n : List UInt8) (p : Int) (hn : n.length ≤ 1000000) (hp : inR .i64 p) : SpecE Tryd.prog 81 [] [.str n, .int .i64 p] [] (.str (hostText n p)) := by
  refine specF0 (C := T_specText) (wr := false) (D := fun _ => []) (U := fun _ => none) (res := [.str (hostText n p)]) Tryd.Ty.mixed T_specText_ok Tryd.func81 (nA := 2) (by decide +kernel) rfl (fun _ => rfl) ?_
  simp only [Tryd.f81, bodyOf, rlOf]
  rw [W_V]
  simp (config := {maxSteps := 2000000}) only [T_specText, Go.Proofs.Tryd.Oct.tb_specLower, Go.Proofs.Tryd.Dig.tb_specText, go_sem, reduceIte, Nat.reduceEqDiff, Nat.reduceAdd, Nat.reduceMul, Nat.reduceDiv, Nat.reduceMod, Nat.reduceSub, Nat.reduceBEq, Nat.reduceLT, Nat.reduceLeDiff, reduceCtorEq, Int.reduceNeg, Int.reduceEq, String.reduceEq, Int.reduceLT, Int.reduceLE, Int.reduceToNat, Int.reduceAdd, Int.reduceMul, Int.reduceSub]
  (try simp (config := {maxSteps := 2000000}) only [gimp, impB, isT, go_sem, reduceIte, Nat.reduceEqDiff, Nat.reduceAdd, Nat.reduceMul, Nat.reduceDiv, Nat.reduceMod, Nat.reduceSub, Nat.reduceBEq, Nat.reduceLT, Nat.reduceLeDiff, reduceCtorEq, Int.reduceNeg, Int.reduceEq, String.reduceEq, Int.reduceLT, Int.reduceLE, Int.reduceToNat, Int.reduceAdd, Int.reduceMul, Int.reduceSub])
  have h1 := textI_len p
  simp only [inR] at hp
  have h2 := lowerS_len n
  have h3 : (lowerS n ++ [58]).length = n.length + 1 := by simp [h2]
  have hm : (1000000 : Nat) ≤ maxLen := by decide
  refine ⟨by omega, fun h => by simp [hostText, h], fun h => ⟨by omega, hp, by omega, by simp [hostText, h]⟩⟩
def tb_specText : List Blk → List AV → Option (List Blk × AV × Prop)
  | [], [.str n, .int .i64 p] => some ([], .str (hostText n p), (n.length ≤ 1000000) ∧ (inR .i64 p))
  | _, _ => none
theorem tb_specText_ok : ∀ E args E' res p, tb_specText E args = some (E', res, p) → p → SpecE Tryd.prog 81 E args E' res := by
  intro E args E' res p h hp
  unfold tb_specText at h
  split at h
  · simp only [Option.some.injEq, Prod.mk.injEq] at h
    obtain ⟨rfl, rfl, rfl⟩ := h
    exact (specText _ _ hp.1 hp.2)
  · cases h

def T_specKey : Tbl := fun g E args => (addT (addT nilT 75 Go.Proofs.Tryd.Host.tb_specParse) 81 Go.Proofs.Tryd.Host.tb_specText) g E args
theorem T_specKey_ok : TblOK Tryd.prog T_specKey := (addT_ok (addT_ok nilT_ok (by decide +kernel) Go.Proofs.Tryd.Host.tb_specParse_ok) (by decide +kernel) Go.Proofs.Tryd.Host.tb_specText_ok)
set_option maxRecDepth 100000 in
set_option maxHeartbeats 4000000 in
theorem specKey (s : List UInt8) (hs : s.length ≤ 1000000) : SpecE Tryd.prog 58 [] [.str s] [] (.tuple [.str (hostKey s), .bool (hostKeyOk s)]) := by
  refine specF0 (C := T_specKey) (wr := false) (D := fun _ => []) (U := fun _ => none) (res := [.str (hostKey s), .bool (hostKeyOk s)]) Tryd.Ty.mixed T_specKey_ok Tryd.func58 (nA := 1) (by decide +kernel) rfl (fun _ => rfl) ?_
  simp only [Tryd.f58, bodyOf, rlOf]
  rw [W_V]
  simp (config := {maxSteps := 2000000}) only [T_specKey, Go.Proofs.Tryd.Host.tb_specParse, Go.Proofs.Tryd.Host.tb_specText, go_sem, reduceIte, Nat.reduceEqDiff, Nat.reduceAdd, Nat.reduceMul, Nat.reduceDiv, Nat.reduceMod, Nat.reduceSub, Nat.reduceBEq, Nat.reduceLT, Nat.reduceLeDiff, reduceCtorEq, Int.reduceNeg, Int.reduceEq, String.reduceEq, Int.reduceLT, Int.reduceLE, Int.reduceToNat, Int.reduceAdd, Int.reduceMul, Int.reduceSub]
  (try simp (config := {maxSteps := 2000000}) only [gimp, impB, isT, go_sem, reduceIte, Nat.reduceEqDiff, Nat.reduceAdd, Nat.reduceMul, Nat.reduceDiv, Nat.reduceMod, Nat.reduceSub, Nat.reduceBEq, Nat.reduceLT, Nat.reduceLeDiff, reduceCtorEq, Int.reduceNeg, Int.reduceEq, String.reduceEq, Int.reduceLT, Int.reduceLE, Int.reduceToNat, Int.reduceAdd, Int.reduceMul, Int.reduceSub])
  have h1 := host_name_len s
  have h2 := host_port_range s
  refine ⟨hs, fun h => by simp [hostKey, hostKeyOk, h], fun h => ⟨⟨by omega, by omega, by omega⟩, by simp [hostKey, hostKeyOk, h]⟩⟩
def tb_specKey : List Blk → List AV → Option (List Blk × AV × Prop)
  | [], [.str s] => some ([], .tuple [.str (hostKey s), .bool (hostKeyOk s)], (s.length ≤ 1000000))
  | _, _ => none
theorem tb_specKey_ok : ∀ E args E' res p, tb_specKey E args = some (E', res, p) → p → SpecE Tryd.prog 58 E args E' res := by
  intro E args E' res p h hp
  unfold tb_specKey at h
  split at h
  · simp only [Option.some.injEq, Prod.mk.injEq] at h
    obtain ⟨rfl, rfl, rfl⟩ := h
    exact (specKey _ hp)
  · cases h

def T_specParseR : Tbl := fun g E args => (addT (addT nilT 31 Go.Proofs.Tryd.Host.tb_specNameR) 22 Go.Proofs.Tryd.Dig.tb_specNumberR) g E args
theorem T_specParseR_ok : TblOK Tryd.prog T_specParseR := (addT_ok (addT_ok nilT_ok (by decide +kernel) Go.Proofs.Tryd.Host.tb_specNameR_ok) (by decide +kernel) Go.Proofs.Tryd.Dig.tb_specNumberR_ok)
set_option maxRecDepth 100000 in
set_option maxHeartbeats 4000000 in
theorem specParseR (s : List UInt8) (hs : s.length ≤ 1000000) : SpecE Tryd.prog 32 [] [.str s] [] (.tuple [.str (hostName s), .int .i64 (hostPort s), .int .i64 (hostErr s)]) := by
  refine specF0 (C := T_specParseR) (wr := false) (D := fun _ => []) (U := fun _ => none) (res := [.str (hostName s), .int .i64 (hostPort s), .int .i64 (hostErr s)]) Tryd.Ty.mixed T_specParseR_ok Tryd.func32 (nA := 1) (by decide +kernel) rfl (fun _ => rfl) ?_
  simp only [Tryd.f32, bodyOf, rlOf]
  rw [W_V]
  simp (config := {maxSteps := 2000000}) only [T_specParseR, Go.Proofs.Tryd.Host.tb_specNameR, Go.Proofs.Tryd.Dig.tb_specNumberR, go_sem, reduceIte, Nat.reduceEqDiff, Nat.reduceAdd, Nat.reduceMul, Nat.reduceDiv, Nat.reduceMod, Nat.reduceSub, Nat.reduceBEq, Nat.reduceLT, Nat.reduceLeDiff, reduceCtorEq, Int.reduceNeg, Int.reduceEq, String.reduceEq, Int.reduceLT, Int.reduceLE, Int.reduceToNat, Int.reduceAdd, Int.reduceMul, Int.reduceSub]
  (try simp (config := {maxSteps := 2000000}) only [gimp, impB, isT, go_sem, reduceIte, Nat.reduceEqDiff, Nat.reduceAdd, Nat.reduceMul, Nat.reduceDiv, Nat.reduceMod, Nat.reduceSub, Nat.reduceBEq, Nat.reduceLT, Nat.reduceLeDiff, reduceCtorEq, Int.reduceNeg, Int.reduceEq, String.reduceEq, Int.reduceLT, Int.reduceLE, Int.reduceToNat, Int.reduceAdd, Int.reduceMul, Int.reduceSub])
  have bad : ∀ e : Int, e = hostErr s → e ≠ 0 → [] = hostName s ∧ 0 = hostPort s ∧ e = hostErr s := fun e h h' => by
    have := host_bad (s := s) (by rw [← h]; exact h')
    exact ⟨this.1.symm, this.2.symm, h⟩
  refine ⟨fun h => bad 2 (by simp [hostErr, h]) (by decide), fun h0 => ⟨hs, fun hz => bad 3 (host_none h0 (by omega)).symm (by decide), fun hz => ?_⟩⟩
  have hle := (name_take (s := s) (by omega)).1
  refine ⟨fun hw => ?_, fun hw => ⟨by omega, fun hc => bad 3 (host_sign (by omega) hc).symm (by decide), fun hc => ⟨by omega, by omega, by rw [List.length_drop]; omega, ?_⟩⟩⟩
  · obtain ⟨g1, g2, g3⟩ := host_whole h0 (by omega)
    exact ⟨by simp [hostName, g1, g3], by simp [hostPort, g1, g2], g1.symm⟩
  · rcases host_port (s := s) (by omega) (by omega) hc with ⟨g1, g2, g3, g4⟩ | ⟨g1, g2⟩
    · rw [← g4]
      refine ⟨fun h5 => bad _ (by simp [hostErr, h0, g2, g1, h5]) (by omega), fun h5 => ⟨fun he => bad 3 (by simp [hostErr, h0, g2, g1, he, h5]) (by decide), fun he => ⟨by omega, ?_⟩⟩⟩
      have e : hostErr s = 0 := by simp [hostErr, h0, g2, g1, he]
      exact ⟨by rw [← g3, (host_ok e).1], by simp [hostPort, e, g1], e.symm⟩
    · rw [g2]
      exact ⟨fun h => by omega, fun _ => ⟨fun _ => bad 3 g1.symm (by decide), fun h => by omega⟩⟩
def tb_specParseR : List Blk → List AV → Option (List Blk × AV × Prop)
  | [], [.str s] => some ([], .tuple [.str (hostName s), .int .i64 (hostPort s), .int .i64 (hostErr s)], (s.length ≤ 1000000))
  | _, _ => none
theorem tb_specParseR_ok : ∀ E args E' res p, tb_specParseR E args = some (E', res, p) → p → SpecE Tryd.prog 32 E args E' res := by
  intro E args E' res p h hp
  unfold tb_specParseR at h
  split at h
  · simp only [Option.some.injEq, Prod.mk.injEq] at h
    obtain ⟨rfl, rfl, rfl⟩ := h
    exact (specParseR _ hp)
  · cases h

def T_specTextR : Tbl := fun g E args => (addT (addT nilT 33 Go.Proofs.Tryd.Oct.tb_specLowerR) 43 Go.Proofs.Tryd.Dig.tb_specTextR) g E args
theorem T_specTextR_ok : TblOK Tryd.prog T_specTextR := (addT_ok (addT_ok nilT_ok (by decide +kernel) Go.Proofs.Tryd.Oct.tb_specLowerR_ok) (by decide +kernel) Go.Proofs.Tryd.Dig.tb_specTextR_ok)
set_option maxRecDepth 100000 in
set_option maxHeartbeats 4000000 in
theorem specTextR (n : List UInt8) (p : Int) (hn : n.length ≤ 1000000) (hp : inR .i64 p) : SpecE Tryd.prog 86 [] [.str n, .int .i64 p] [] (.str (hostText n p)) := by
  refine specF0 (C := T_specTextR) (wr := false) (D := fun _ => []) (U := fun _ => none) (res := [.str (hostText n p)]) Tryd.Ty.mixed T_specTextR_ok Tryd.func86 (nA := 2) (by decide +kernel) rfl (fun _ => rfl) ?_
  simp only [Tryd.f86, bodyOf, rlOf]
  rw [W_V]
  simp (config := {maxSteps := 2000000}) only [T_specTextR, Go.Proofs.Tryd.Oct.tb_specLowerR, Go.Proofs.Tryd.Dig.tb_specTextR, go_sem, reduceIte, Nat.reduceEqDiff, Nat.reduceAdd, Nat.reduceMul, Nat.reduceDiv, Nat.reduceMod, Nat.reduceSub, Nat.reduceBEq, Nat.reduceLT, Nat.reduceLeDiff, reduceCtorEq, Int.reduceNeg, Int.reduceEq, String.reduceEq, Int.reduceLT, Int.reduceLE, Int.reduceToNat, Int.reduceAdd, Int.reduceMul, Int.reduceSub]
  (try simp (config := {maxSteps := 2000000}) only [gimp, impB, isT, go_sem, reduceIte, Nat.reduceEqDiff, Nat.reduceAdd, Nat.reduceMul, Nat.reduceDiv, Nat.reduceMod, Nat.reduceSub, Nat.reduceBEq, Nat.reduceLT, Nat.reduceLeDiff, reduceCtorEq, Int.reduceNeg, Int.reduceEq, String.reduceEq, Int.reduceLT, Int.reduceLE, Int.reduceToNat, Int.reduceAdd, Int.reduceMul, Int.reduceSub])
  have h1 := textI_len p
  simp only [inR] at hp
  have h2 := lowerS_len n
  have h3 : (lowerS n ++ [58]).length = n.length + 1 := by simp [h2]
  refine ⟨by omega, fun h => ⟨by omega, hp, by omega, by simp [hostText, h]⟩, fun h => by simp [hostText, h]⟩
def tb_specTextR : List Blk → List AV → Option (List Blk × AV × Prop)
  | [], [.str n, .int .i64 p] => some ([], .str (hostText n p), (n.length ≤ 1000000) ∧ (inR .i64 p))
  | _, _ => none
theorem tb_specTextR_ok : ∀ E args E' res p, tb_specTextR E args = some (E', res, p) → p → SpecE Tryd.prog 86 E args E' res := by
  intro E args E' res p h hp
  unfold tb_specTextR at h
  split at h
  · simp only [Option.some.injEq, Prod.mk.injEq] at h
    obtain ⟨rfl, rfl, rfl⟩ := h
    exact (specTextR _ _ hp.1 hp.2)
  · cases h

def T_specKeyR : Tbl := fun g E args => (addT (addT nilT 32 Go.Proofs.Tryd.Host.tb_specParseR) 86 Go.Proofs.Tryd.Host.tb_specTextR) g E args
theorem T_specKeyR_ok : TblOK Tryd.prog T_specKeyR := (addT_ok (addT_ok nilT_ok (by decide +kernel) Go.Proofs.Tryd.Host.tb_specParseR_ok) (by decide +kernel) Go.Proofs.Tryd.Host.tb_specTextR_ok)
set_option maxRecDepth 100000 in
set_option maxHeartbeats 4000000 in
theorem specKeyR (s : List UInt8) (hs : s.length ≤ 1000000) : SpecE Tryd.prog 65 [] [.str s] [] (.tuple [.str (hostKey s), .bool (hostKeyOk s)]) := by
  refine specF0 (C := T_specKeyR) (wr := false) (D := fun _ => []) (U := fun _ => none) (res := [.str (hostKey s), .bool (hostKeyOk s)]) Tryd.Ty.mixed T_specKeyR_ok Tryd.func65 (nA := 1) (by decide +kernel) rfl (fun _ => rfl) ?_
  simp only [Tryd.f65, bodyOf, rlOf]
  rw [W_V]
  simp (config := {maxSteps := 2000000}) only [T_specKeyR, Go.Proofs.Tryd.Host.tb_specParseR, Go.Proofs.Tryd.Host.tb_specTextR, go_sem, reduceIte, Nat.reduceEqDiff, Nat.reduceAdd, Nat.reduceMul, Nat.reduceDiv, Nat.reduceMod, Nat.reduceSub, Nat.reduceBEq, Nat.reduceLT, Nat.reduceLeDiff, reduceCtorEq, Int.reduceNeg, Int.reduceEq, String.reduceEq, Int.reduceLT, Int.reduceLE, Int.reduceToNat, Int.reduceAdd, Int.reduceMul, Int.reduceSub]
  (try simp (config := {maxSteps := 2000000}) only [gimp, impB, isT, go_sem, reduceIte, Nat.reduceEqDiff, Nat.reduceAdd, Nat.reduceMul, Nat.reduceDiv, Nat.reduceMod, Nat.reduceSub, Nat.reduceBEq, Nat.reduceLT, Nat.reduceLeDiff, reduceCtorEq, Int.reduceNeg, Int.reduceEq, String.reduceEq, Int.reduceLT, Int.reduceLE, Int.reduceToNat, Int.reduceAdd, Int.reduceMul, Int.reduceSub])
  have h1 := host_name_len s
  have h2 := host_port_range s
  refine ⟨hs, fun h => by simp [hostKey, hostKeyOk, h], fun h => ⟨⟨by omega, by omega, by omega⟩, by simp [hostKey, hostKeyOk, h]⟩⟩
def tb_specKeyR : List Blk → List AV → Option (List Blk × AV × Prop)
  | [], [.str s] => some ([], .tuple [.str (hostKey s), .bool (hostKeyOk s)], (s.length ≤ 1000000))
  | _, _ => none
theorem tb_specKeyR_ok : ∀ E args E' res p, tb_specKeyR E args = some (E', res, p) → p → SpecE Tryd.prog 65 E args E' res := by
  intro E args E' res p h hp
  unfold tb_specKeyR at h
  split at h
  · simp only [Option.some.injEq, Prod.mk.injEq] at h
    obtain ⟨rfl, rfl, rfl⟩ := h
    exact (specKeyR _ hp)
  · cases h




end Go.Proofs.Tryd.Host
