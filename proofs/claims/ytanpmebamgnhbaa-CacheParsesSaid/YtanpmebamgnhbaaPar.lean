/- params: the walks of the program. No condition beyond those that a machine's numbers bring. -/
import Derived.Test.YtanpmebamgnhbaaParM
import Derived.Test.YtanpmebamgnhbaaCurB
import Derived.Test.YtanpmebamgnhbaaOctC
set_option linter.unusedVariables false
set_option linter.unusedSimpArgs false
namespace Go.Proofs.Try.Par
open Go Go.Abs Go.Proofs Go.Mdl

def T_specValue : Tbl := fun g E args => (addT (addT (addT (addT (addT (addT nilT 155 Go.Proofs.Try.Cur.tb_specNew) 254 Go.Proofs.Try.Cur.tb_specLeft) 158 Go.Proofs.Try.Cur.tb_specSkip) 159 Go.Proofs.Try.Cur.tb_specByte) 156 Go.Proofs.Try.Cur.tb_specToken) 255 Go.Proofs.Try.Cur.tb_specQuoted) g E args
theorem T_specValue_ok : TblOK Try.prog T_specValue := (addT_ok (addT_ok (addT_ok (addT_ok (addT_ok (addT_ok nilT_ok (by decide +kernel) Go.Proofs.Try.Cur.tb_specNew_ok) (by decide +kernel) Go.Proofs.Try.Cur.tb_specLeft_ok) (by decide +kernel) Go.Proofs.Try.Cur.tb_specSkip_ok) (by decide +kernel) Go.Proofs.Try.Cur.tb_specByte_ok) (by decide +kernel) Go.Proofs.Try.Cur.tb_specToken_ok) (by decide +kernel) Go.Proofs.Try.Cur.tb_specQuoted_ok)
set_option maxRecDepth 100000 in
set_option maxHeartbeats 4000000 in
theorem specValue (s : List UInt8) (a : Int) (h : 0 ≤ a ∧ a ≤ s.length ∧ s.length ≤ 1000000) : SpecE Try.prog 160 [.cells 2 false (.agg [.str [], .int .i64 0]) [.agg [.str s, .int .i64 a]]] [.ptr 0 0 0 1] [.cells 2 false (.agg [.str [], .int .i64 0]) [.agg [.str s, .int .i64 (a + valTake (s.drop a.toNat))]]] (.tuple [.str (valText (s.drop a.toNat)), .bool (valOk (s.drop a.toNat))]) := by
  refine specFE (C := T_specValue) (wr := false) (D := fun _ => []) (U := fun _ => none) (E := [.cells 2 false (.agg [.str [], .int .i64 0]) [.agg [.str s, .int .i64 a]]]) (E' := [.cells 2 false (.agg [.str [], .int .i64 0]) [.agg [.str s, .int .i64 (a + valTake (s.drop a.toNat))]]]) (res := [.str (valText (s.drop a.toNat)), .bool (valOk (s.drop a.toNat))]) [] Try.Ty.mixed T_specValue_ok Try.func160 (nE := 1) (nA := 1) (by decide +kernel) rfl rfl ?_
  simp only [Try.f160, bodyOf, rlOf]
  rw [W_V]
  obtain ⟨n, rfl⟩ : ∃ n : Nat, a = n := ⟨a.toNat, by omega⟩
  simp (config := {maxSteps := 2000000}) only [T_specValue, Go.Proofs.Try.Cur.tb_specNew, Go.Proofs.Try.Cur.tb_specLeft, Go.Proofs.Try.Cur.tb_specSkip, Go.Proofs.Try.Cur.tb_specByte, Go.Proofs.Try.Cur.tb_specToken, Go.Proofs.Try.Cur.tb_specQuoted, go_sem, reduceIte, Nat.reduceEqDiff, Nat.reduceAdd, Nat.reduceMul, Nat.reduceSub, Nat.reduceBEq, Nat.reduceLT, Nat.reduceLeDiff, reduceCtorEq, Int.reduceNeg, Int.reduceEq, String.reduceEq, Int.reduceLT, Int.reduceLE, Int.reduceToNat, Int.reduceAdd, Int.reduceMul, Int.reduceSub]
  (try simp (config := {maxSteps := 2000000}) only [gimp, impB, isT, go_sem, reduceIte, Nat.reduceEqDiff, Nat.reduceAdd, Nat.reduceMul, Nat.reduceSub, Nat.reduceBEq, Nat.reduceLT, Nat.reduceLeDiff, reduceCtorEq, Int.reduceNeg, Int.reduceEq, String.reduceEq, Int.reduceLT, Int.reduceLE, Int.reduceToNat, Int.reduceAdd, Int.reduceMul, Int.reduceSub])
  have e61 : UInt8.ofNat 61 = (61 : UInt8) := rfl
  have hdr : ∀ k, s.drop (n + k) = (s.drop n).drop k := fun k => List.drop_drop.symm
  have hlen : (s.drop n).length = s.length - n := by simp
  have hdec : ∀ b : Bool, ∀ k : Nat, 0 + (k : Int) = k := fun _ k => by omega
  simp only [e61, hdr, Int.zero_add, Int.toNat_natCast]
  generalize s.drop n = t at *
  have hk := spanL_le blankB t
  refine ⟨by omega, by omega, ⟨by omega, rfl⟩, fun hf => ?_, fun ht => ?_⟩
  · have he : eqAt t = false := hf
    simp [valText, valOk, valTake, he]
  have he : eqAt t = true := ht
  simp only [eqAt, decide_eq_true_eq] at ht
  have hlt := head_lt ht
  simp only [ht, if_true]
  have e1 : ((n : Int) + (spanL blankB t : Nat) + 1) = ((n + valK t : Nat) : Int) := by unfold valK; omega
  simp only [e1, Int.toNat_natCast, hdr]
  have hj := valJ_le he
  have hjd : valJ t = valK t + spanL blankB (t.drop (valK t)) := rfl
  have e2 : (((n + valK t : Nat) : Int) + (spanL blankB (t.drop (valK t)) : Nat)) = ((n + valJ t : Nat) : Int) := by omega
  simp only [e2, Int.toNat_natCast, hdr]
  have hN : spanL tcharB (t.drop (valJ t)) = valN t := rfl
  simp only [hN]
  have hnl : valJ t + valN t ≤ t.length := span_drop_le _ _ _ hj
  have hemp : (t.drop (valJ t)).take (valN t) = [] ↔ valN t = 0 := by
    rw [← List.length_eq_zero_iff, List.length_take, List.length_drop]; omega
  rw [hemp]
  refine ⟨h, ⟨by omega, rfl⟩, by omega, by omega, fun hp => ?_, fun hz => ⟨by omega, ?_⟩⟩
  · have e3 : (((n + valJ t : Nat) : Int) + (valN t : Nat)) = (n : Int) + (valTake t : Nat) := by
      unfold valTake; rw [if_pos he, if_neg hp]; omega
    rw [e3]
    exact ⟨⟨by rw [valText, if_pos he, if_neg hp], by rw [valOk, if_pos he, if_neg hp]⟩, rfl, rfl⟩
  · rw [hz]
    have e4 : (((n + valJ t : Nat) : Int) + ((0 : Nat) : Int)).toNat = n + valJ t := by omega
    rw [e4, hdr]
    have e5 : (((n + valJ t : Nat) : Int) + ((0 : Nat) : Int) + (qLen (t.drop (valJ t)) : Nat)) = (n : Int) + (valTake t : Nat) := by
      unfold valTake; rw [if_pos he, if_pos hz]; omega
    rw [e5]
    exact ⟨⟨by rw [valText, if_pos he, if_pos hz], by rw [valOk, if_pos he, if_pos hz]⟩, rfl, rfl⟩
def tb_specValue : List Blk → List AV → Option (List Blk × AV × Prop)
  | [.cells 2 false d [.agg [.str s, .int .i64 a]]], [.ptr 0 0 0 1] => some ([.cells 2 false (.agg [.str [], .int .i64 0]) [.agg [.str s, .int .i64 (a + valTake (s.drop a.toNat))]]], .tuple [.str (valText (s.drop a.toNat)), .bool (valOk (s.drop a.toNat))], (d = .agg [.str [], .int .i64 0]) ∧ (0 ≤ a ∧ a ≤ s.length ∧ s.length ≤ 1000000))
  | _, _ => none
theorem tb_specValue_ok : ∀ E args E' res p, tb_specValue E args = some (E', res, p) → p → SpecE Try.prog 160 E args E' res := by
  intro E args E' res p h hp
  unfold tb_specValue at h
  split at h
  · simp only [Option.some.injEq, Prod.mk.injEq] at h
    obtain ⟨rfl, rfl, rfl⟩ := h
    obtain ⟨rfl, hp⟩ := hp
    exact (specValue _ _ hp)
  · cases h

def T_specNext : Tbl := fun g E args => (addT (addT (addT (addT (addT (addT nilT 160 Go.Proofs.Try.Par.tb_specValue) 158 Go.Proofs.Try.Cur.tb_specSkip) 159 Go.Proofs.Try.Cur.tb_specByte) 156 Go.Proofs.Try.Cur.tb_specToken) 161 Go.Proofs.Try.Cur.tb_specDone) 152 Go.Proofs.Try.Oct.tb_specLower) g E args
theorem T_specNext_ok : TblOK Try.prog T_specNext := (addT_ok (addT_ok (addT_ok (addT_ok (addT_ok (addT_ok nilT_ok (by decide +kernel) Go.Proofs.Try.Par.tb_specValue_ok) (by decide +kernel) Go.Proofs.Try.Cur.tb_specSkip_ok) (by decide +kernel) Go.Proofs.Try.Cur.tb_specByte_ok) (by decide +kernel) Go.Proofs.Try.Cur.tb_specToken_ok) (by decide +kernel) Go.Proofs.Try.Cur.tb_specDone_ok) (by decide +kernel) Go.Proofs.Try.Oct.tb_specLower_ok)
set_option maxRecDepth 100000 in
set_option maxHeartbeats 4000000 in
theorem specNext (s : List UInt8) (n : Nat) (l : List (List UInt8 × List UInt8)) (h : n ≤ s.length ∧ s.length ≤ 1000000) (hl : l.length ≤ 1000000) : SpecE Try.prog 157 [.cells 1 false .nilp [.ptr 3 0 0 1], .cells 1 false (.bool false) [.bool false], .cells 1 false .nils [.ref 4 0 l.length l.length], .cells 2 false (.agg [.str [], .int .i64 0]) [.agg [.str s, .int .i64 (n : Int)]], .cells 2 false (.agg [.str [], .str []]) (l.map enc_fld)] [.ptr 0 0 0 1, .ptr 1 0 0 1, .ptr 2 0 0 1] [.cells 1 false .nilp [.ptr 3 0 0 1], .cells 1 false (.bool false) [.bool (parBad (s.drop n))], .cells 1 false .nils [.ref 4 0 (addPar l (s.drop n)).length (addPar l (s.drop n)).length], .cells 2 false (.agg [.str [], .int .i64 0]) [.agg [.str s, .int .i64 ((n + parTake (s.drop n) : Nat) : Int)]], .cells 2 false (.agg [.str [], .str []]) ((addPar l (s.drop n)).map enc_fld)] (.bool (!parBad (s.drop n) && !decide (parLeft (s.drop n) = []))) := by
  refine specFE (C := T_specNext) (wr := false) (D := fun _ => []) (U := fun i => if i = 3 then some ⟨Unit, fun _ => ⟨[(0, .ptr 0 0 0 1), (1, .ptr 1 0 0 1), (2, .ptr 2 0 0 1), (3, .bool false)], [(0, .cells 1 false .nilp [.ptr 3 0 0 1]), (1, .cells 1 false (.bool false) [.bool (!semi (s.drop n))]), (2, .cells 1 false .nils [.ref 4 0 l.length l.length]), (3, .cells 2 false (.agg [.str [], .int .i64 0]) [.agg [.str s, .int .i64 ((n + parK (s.drop n) : Nat) : Int)]]), (4, .cells 2 false (.agg [.str [], .str []]) (l.map enc_fld))]⟩, fun _ => True⟩ else if i = 5 then some ⟨Unit, fun _ => ⟨[(0, .ptr 0 0 0 1), (1, .ptr 1 0 0 1), (2, .ptr 2 0 0 1), (3, .bool false), (4, .ptr 80 0 0 1)], [(0, .cells 1 false .nilp [.ptr 3 0 0 1]), (1, .cells 1 false (.bool false) [.bool (!semi (s.drop n))]), (2, .cells 1 false .nils [.ref 4 0 l.length l.length]), (3, .cells 2 false (.agg [.str [], .int .i64 0]) [.agg [.str s, .int .i64 ((n + (parJ (s.drop n) + parN (s.drop n)) : Nat) : Int)]]), (4, .cells 2 false (.agg [.str [], .str []]) (l.map enc_fld)), (80, .cells 2 false (.agg [.str [], .str []]) [.agg [.str (parName (s.drop n)), .str []]])]⟩, fun _ => True⟩ else if i = 8 then some ⟨Unit, fun _ => ⟨[(0, .ptr 0 0 0 1), (1, .ptr 1 0 0 1), (2, .ptr 2 0 0 1), (3, .bool false), (4, .ptr 80 0 0 1), (5, .bool (valOk (parRest (s.drop n))))], [(0, .cells 1 false .nilp [.ptr 3 0 0 1]), (1, .cells 1 false (.bool false) [.bool (!semi (s.drop n) || decide (parN (s.drop n) = 0))]), (2, .cells 1 false .nils [.ref 4 0 l.length l.length]), (3, .cells 2 false (.agg [.str [], .int .i64 0]) [.agg [.str s, .int .i64 ((n + parTake (s.drop n) : Nat) : Int)]]), (4, .cells 2 false (.agg [.str [], .str []]) (l.map enc_fld)), (80, .cells 2 false (.agg [.str [], .str []]) [.agg [.str (parName (s.drop n)), .str (parVal (s.drop n))]])]⟩, fun _ => True⟩ else none) (E := [.cells 1 false .nilp [.ptr 3 0 0 1], .cells 1 false (.bool false) [.bool false], .cells 1 false .nils [.ref 4 0 l.length l.length], .cells 2 false (.agg [.str [], .int .i64 0]) [.agg [.str s, .int .i64 (n : Int)]], .cells 2 false (.agg [.str [], .str []]) (l.map enc_fld)]) (E' := [.cells 1 false .nilp [.ptr 3 0 0 1], .cells 1 false (.bool false) [.bool (parBad (s.drop n))], .cells 1 false .nils [.ref 4 0 (addPar l (s.drop n)).length (addPar l (s.drop n)).length], .cells 2 false (.agg [.str [], .int .i64 0]) [.agg [.str s, .int .i64 ((n + parTake (s.drop n) : Nat) : Int)]], .cells 2 false (.agg [.str [], .str []]) ((addPar l (s.drop n)).map enc_fld)]) (res := [.bool (!parBad (s.drop n) && !decide (parLeft (s.drop n) = []))]) [] Try.Ty.mixed T_specNext_ok Try.func157 (nE := 5) (nA := 3) (by decide +kernel) rfl rfl ?_
  simp only [Try.f157, bodyOf, rlOf]
  rw [W_V]
  simp (config := {maxSteps := 2000000}) only [T_specNext, Go.Proofs.Try.Par.tb_specValue, Go.Proofs.Try.Cur.tb_specSkip, Go.Proofs.Try.Cur.tb_specByte, Go.Proofs.Try.Cur.tb_specToken, Go.Proofs.Try.Cur.tb_specDone, Go.Proofs.Try.Oct.tb_specLower, go_sem, reduceIte, Nat.reduceEqDiff, Nat.reduceAdd, Nat.reduceMul, Nat.reduceSub, Nat.reduceBEq, Nat.reduceLT, Nat.reduceLeDiff, reduceCtorEq, Int.reduceNeg, Int.reduceEq, String.reduceEq, Int.reduceLT, Int.reduceLE, Int.reduceToNat, Int.reduceAdd, Int.reduceMul, Int.reduceSub]
  (try simp (config := {maxSteps := 2000000}) only [gimp, impB, isT, go_sem, reduceIte, Nat.reduceEqDiff, Nat.reduceAdd, Nat.reduceMul, Nat.reduceSub, Nat.reduceBEq, Nat.reduceLT, Nat.reduceLeDiff, reduceCtorEq, Int.reduceNeg, Int.reduceEq, String.reduceEq, Int.reduceLT, Int.reduceLE, Int.reduceToNat, Int.reduceAdd, Int.reduceMul, Int.reduceSub])
  have e59 : UInt8.ofNat 59 = (59 : UInt8) := rfl
  have hdr : ∀ k, s.drop (n + k) = (s.drop n).drop k := fun k => List.drop_drop.symm
  have hlen : (s.drop n).length = s.length - n := by simp
  simp only [e59, hdr, Int.toNat_natCast]
  generalize hT : s.drop n = t at *
  have hk := spanL_le blankB t
  have eK : (if (t.drop (spanL blankB t)).head? = some 59 then (n : Int) + (spanL blankB t : Nat) + 1 else (n : Int) + (spanL blankB t : Nat)) = ((n + parK t : Nat) : Int) := by
    unfold parK semi
    by_cases h : (t.drop (spanL blankB t)).head? = some 59
    · simp only [h, decide_true, if_true]; omega
    · simp only [h, decide_false, if_false, Bool.false_eq_true]; omega
  have hsemi : decide ((t.drop (spanL blankB t)).head? = some 59) = semi t := rfl
  have eJ : n + parK t + spanL blankB (t.drop (parK t)) = n + parJ t := by unfold parJ; omega
  have eN : spanL tcharB (t.drop (parJ t)) = parN t := rfl
  have eJ2 : ((n + parK t : Nat) : Int) + (spanL blankB (t.drop (parK t)) : Nat) = ((n + parJ t : Nat) : Int) := by omega
  have eR : t.drop (parJ t + parN t) = parRest t := rfl
  have h1 := parK_le t
  have h2 := parJ_le t
  have h3 := parN_le t
  have h4 := parTake_le t
  simp only [eK, hsemi, eJ, hdr, eN, eJ2, eR]
  have eV : ((n + (parJ t + parN t) : Nat) : Int) + (valTake (parRest t) : Nat) = ((n + parTake t : Nat) : Int) := by unfold parTake; omega
  have eM : ((n + parJ t : Nat) : Int) + (parN t : Nat) = ((n + (parJ t + parN t) : Nat) : Int) := by omega
  have eP : lowerS ((t.drop (parJ t)).take (parN t)) = parName t := rfl
  have eX : valText (parRest t) = parVal t := rfl
  have hz : parName t = [] ↔ parN t = 0 := by
    rw [← List.length_eq_zero_iff]
    unfold parName
    rw [lowerS_len, List.length_take, List.length_drop]; omega
  have hm : (1000000 : Nat) ≤ maxLen := by decide
  simp only [eV, eM, eP, eX, hz]
  have hlen2 : ((t.drop (parJ t)).take (parN t)).length ≤ maxLen := by rw [List.length_take, List.length_drop]; omega
  clear eK hsemi eJ eN eJ2 eR eV eM eP eX hz
  have hadd : l.map enc_fld ++ [AV.agg [.str (parName t), .str (parVal t)]] = (addPar l t).map enc_fld := by simp [addPar, enc_fld]
  have hal : (addPar l t).length = l.length + 1 := by simp [addPar]
  rw [hadd, hal]
  refine ⟨by omega, ⟨⟨by omega, rfl⟩, (), by simp⟩, by omega, ⟨by omega, hlen2, (), by simp⟩, ⟨by omega, (), by simp⟩, fun hv => ⟨by omega, ?_⟩, fun hv => ⟨by omega, fun hs1 hn1 => ⟨⟨hs1, hn1⟩, by omega, ?_⟩, fun hb => ⟨hb, hb, ?_⟩⟩⟩
  · have hb : parBad t = true := by simp [parBad, hv]
    rw [hb]; simp
  · have hb : parBad t = false := by simp [parBad, hv, hs1, hn1]
    rw [hb, hs1]; simp [hn1, parLeft]
  · have hb2 : (!semi t || decide (parN t = 0)) = true := by
      rcases hb with h | h <;> simp [h]
    have hb : parBad t = true := by
      unfold parBad
      rcases hb with h | h <;> simp [h]
    rw [hb, hb2]; simp

def tb_specNext : List Blk → List AV → Option (List Blk × AV × Prop)
  | [.cells 1 false z0 [.ptr 3 0 0 1], .cells 1 false z1 [.bool b], .cells 1 false z2 [.ref 4 0 n1 n2], .cells 2 false z3 [.agg [.str s, .int .i64 a]], .cells 2 false z4 c], [.ptr 0 0 0 1, .ptr 1 0 0 1, .ptr 2 0 0 1] =>
    some ([.cells 1 false z0 [.ptr 3 0 0 1], .cells 1 false z1 [.bool (parBad (s.drop a.toNat))], .cells 1 false z2 [.ref 4 0 (addPar (c.map dec_fld) (s.drop a.toNat)).length (addPar (c.map dec_fld) (s.drop a.toNat)).length], .cells 2 false z3 [.agg [.str s, .int .i64 ((a.toNat + parTake (s.drop a.toNat) : Nat) : Int)]], .cells 2 false z4 ((addPar (c.map dec_fld) (s.drop a.toNat)).map enc_fld)],
      .bool (!parBad (s.drop a.toNat) && !decide (parLeft (s.drop a.toNat) = [])),
      z0 = .nilp ∧ z1 = .bool false ∧ z2 = .nils ∧ z3 = .agg [.str [], .int .i64 0] ∧ z4 = .agg [.str [], .str []] ∧ b = false ∧ n1 = c.length ∧ n2 = c.length ∧ (c.map dec_fld).map enc_fld = c ∧ (0 ≤ a ∧ a ≤ s.length ∧ s.length ≤ 1000000) ∧ c.length ≤ 1000000)
  | _, _ => none
theorem tb_specNext_ok : ∀ E args E' res q, tb_specNext E args = some (E', res, q) → q → SpecE Try.prog 157 E args E' res := by
  intro E args E' res q h hq
  unfold tb_specNext at h
  split at h
  · rename_i z0 z1 b z2 n1 n2 z3 s a z4 c
    simp only [Option.some.injEq, Prod.mk.injEq] at h
    obtain ⟨rfl, rfl, rfl⟩ := h
    obtain ⟨rfl, rfl, rfl, rfl, rfl, rfl, rfl, rfl, h1, h2, h3⟩ := hq
    have := specNext s a.toNat (c.map dec_fld) (by omega) (by rw [List.length_map]; exact h3)
    rw [List.length_map, h1, show ((a.toNat : Nat) : Int) = a by omega] at this
    exact this
  · cases h

def T_specParse : Tbl := fun g E args => (addT (addT (addT (addT (addT nilT 157 Go.Proofs.Try.Par.tb_specNext) 155 Go.Proofs.Try.Cur.tb_specNew) 156 Go.Proofs.Try.Cur.tb_specToken) 161 Go.Proofs.Try.Cur.tb_specDone) 152 Go.Proofs.Try.Oct.tb_specLower) g E args
theorem T_specParse_ok : TblOK Try.prog T_specParse := (addT_ok (addT_ok (addT_ok (addT_ok (addT_ok nilT_ok (by decide +kernel) Go.Proofs.Try.Par.tb_specNext_ok) (by decide +kernel) Go.Proofs.Try.Cur.tb_specNew_ok) (by decide +kernel) Go.Proofs.Try.Cur.tb_specToken_ok) (by decide +kernel) Go.Proofs.Try.Cur.tb_specDone_ok) (by decide +kernel) Go.Proofs.Try.Oct.tb_specLower_ok)
set_option maxRecDepth 100000 in
set_option maxHeartbeats 4000000 in
theorem specParse (s : List UInt8) (hs : s.length ≤ 1000000) : SpecE Try.prog 51 [] [.str s] [] (.tuple [.str (parsName s), enc_flds (parsList s), .int .i64 (parsErr s)]) := by
  refine specF0 (C := T_specParse) (wr := false) (D := fun i => if i = 12 then [1, 3] else []) (U := fun i => if i = 8 then some ⟨Unit, fun _ => ⟨[(2, .str (lowerS (wordP s))), (3, .ptr 64 0 0 1), (4, .int .i64 0), (5, .ptr 96 0 0 1), (6, .ptr 112 0 0 1), (7, .clo 157 0 [.ptr 96 0 0 1, .ptr 112 0 0 1, .ptr 64 0 0 1]), (8, .bool (!decide (spanL tcharB s = 0) && !decide (restP s = [])))], [(64, .cells 1 false .nils [.ref 5000 0 0 0]), (5000, .cells 2 false (.agg [.str [], .str []]) []), (96, .cells 1 false .nilp [.ptr 208 0 0 1]), (112, .cells 1 false (.bool false) [.bool (decide (spanL tcharB s = 0))]), (208, .cells 2 false (.agg [.str [], .int .i64 0]) [.agg [.str s, .int .i64 ((spanL tcharB s : Nat) : Int)]])]⟩, fun _ => True⟩ else none) (res := [.str (parsName s), enc_flds (parsList s), .int .i64 (parsErr s)]) Try.Ty.mixed T_specParse_ok Try.func51 (nA := 1) (by decide +kernel) rfl (fun _ => rfl) ?_
  simp only [Try.f51, bodyOf, rlOf]
  rw [W_V]
  simp (config := {maxSteps := 2000000}) only [T_specParse, Go.Proofs.Try.Par.tb_specNext, Go.Proofs.Try.Cur.tb_specNew, Go.Proofs.Try.Cur.tb_specToken, Go.Proofs.Try.Cur.tb_specDone, Go.Proofs.Try.Oct.tb_specLower, go_sem, reduceIte, Nat.reduceEqDiff, Nat.reduceAdd, Nat.reduceMul, Nat.reduceSub, Nat.reduceBEq, Nat.reduceLT, Nat.reduceLeDiff, reduceCtorEq, Int.reduceNeg, Int.reduceEq, String.reduceEq, Int.reduceLT, Int.reduceLE, Int.reduceToNat, Int.reduceAdd, Int.reduceMul, Int.reduceSub]
  (try simp (config := {maxSteps := 2000000}) only [gimp, impB, isT, go_sem, reduceIte, Nat.reduceEqDiff, Nat.reduceAdd, Nat.reduceMul, Nat.reduceSub, Nat.reduceBEq, Nat.reduceLT, Nat.reduceLeDiff, reduceCtorEq, Int.reduceNeg, Int.reduceEq, String.reduceEq, Int.reduceLT, Int.reduceLE, Int.reduceToNat, Int.reduceAdd, Int.reduceMul, Int.reduceSub])
  have hw : lowerS (s.take (spanL tcharB s)) = [] ↔ spanL tcharB s = 0 := by
    have := spanL_le tcharB s
    rw [← List.length_eq_zero_iff, lowerS_len, List.length_take]; omega
  have hsp := spanL_le tcharB s
  have hm : (1000000 : Nat) ≤ maxLen := by decide
  have hwl : (s.take (spanL tcharB s)).length ≤ maxLen := by rw [List.length_take]; omega
  have hwp : s.take (spanL tcharB s) = wordP s := rfl
  have hrp : s.drop (spanL tcharB s) = restP s := rfl
  simp only [hw, Int.zero_add, Int.toNat_natCast, hrp]
  refine ⟨fun h => ?_, fun h0 => ⟨by omega, hwl, ⟨fun h => ⟨h, by omega, (), by simp [hwp]⟩, fun h => ⟨h, h, (), ⟨by rw [hwp], by simp [h]⟩, trivial, trivial⟩⟩, ?_⟩⟩
  · subst h; decide +kernel
  refine VL_inv (X := Nat × List (List UInt8 × List UInt8) × Bool) (fun y => ⟨[(2, .str (lowerS (wordP s))), (3, .ptr 64 0 0 1), (4, .int .i64 0), (5, .ptr 96 0 0 1), (6, .ptr 112 0 0 1), (7, .clo 157 0 [.ptr 96 0 0 1, .ptr 112 0 0 1, .ptr 64 0 0 1]), (8, .bool (!y.2.2 && !decide (s.drop y.1 = [])))],
    [(64, .cells 1 false .nils [.ref 5000 0 y.2.1.length y.2.1.length]), (5000, .cells 2 false (.agg [.str [], .str []]) (y.2.1.map enc_fld)), (96, .cells 1 false .nilp [.ptr 208 0 0 1]), (112, .cells 1 false (.bool false) [.bool y.2.2]), (208, .cells 2 false (.agg [.str [], .int .i64 0]) [.agg [.str s, .int .i64 (y.1 : Int)]])]⟩)
    (fun y => y.1 ≤ s.length ∧ y.2.1.length ≤ y.1 + 1 ∧ (y.2.2 = false → y.2.1.length ≤ y.1) ∧ (y.2.2 = true → parsOk s = false) ∧ (y.2.2 = false → spanL tcharB s ≠ 0 ∧ parsGo (restP s) = (parsGo (s.drop y.1)).map (y.2.1 ++ ·))) (fun y => 2 * (s.length - y.1) + (if y.2.2 = true then 0 else 1)) (spanL tcharB s, [], decide (spanL tcharB s = 0)) ?_ ?_ ?_
  · simp only [hrp, go_sem, go_sem, reduceIte, Nat.reduceEqDiff, Nat.reduceAdd, Nat.reduceMul, Nat.reduceSub, Nat.reduceBEq, Nat.reduceLT, Nat.reduceLeDiff, reduceCtorEq, Int.reduceNeg, Int.reduceEq, String.reduceEq, Int.reduceLT, Int.reduceLE, Int.reduceToNat, Int.reduceAdd, Int.reduceMul, Int.reduceSub]
    try rfl
  · refine ⟨hsp, Nat.zero_le _, fun _ => Nat.zero_le _, fun h => by simp only [decide_eq_true_eq] at h; simp [parsOk, h], fun h => ⟨by simpa using h, ?_⟩⟩
    simp only [hrp, List.nil_append]
    cases parsGo (restP s) <;> rfl
  rintro ⟨n, l, bad⟩ ⟨i1, i2, i2', i3, i4⟩
  simp only at i1 i2 i2' i3 i4
  simp (config := {maxSteps := 2000000}) only [T_specParse, Go.Proofs.Try.Par.tb_specNext, Go.Proofs.Try.Cur.tb_specNew, Go.Proofs.Try.Cur.tb_specToken, Go.Proofs.Try.Cur.tb_specDone, Go.Proofs.Try.Oct.tb_specLower, go_sem, reduceIte, Nat.reduceEqDiff, Nat.reduceAdd, Nat.reduceMul, Nat.reduceSub, Nat.reduceBEq, Nat.reduceLT, Nat.reduceLeDiff, reduceCtorEq, Int.reduceNeg, Int.reduceEq, String.reduceEq, Int.reduceLT, Int.reduceLE, Int.reduceToNat, Int.reduceAdd, Int.reduceMul, Int.reduceSub]
  (try simp (config := {maxSteps := 2000000}) only [gimp, impB, isT, go_sem, reduceIte, Nat.reduceEqDiff, Nat.reduceAdd, Nat.reduceMul, Nat.reduceSub, Nat.reduceBEq, Nat.reduceLT, Nat.reduceLeDiff, reduceCtorEq, Int.reduceNeg, Int.reduceEq, String.reduceEq, Int.reduceLT, Int.reduceLE, Int.reduceToNat, Int.reduceAdd, Int.reduceMul, Int.reduceSub])
  have hal : ∀ t, (addPar l t).length = l.length + 1 := fun t => by simp [addPar]
  refine ⟨fun hb hne => ⟨⟨hb, by omega, by have := i2' hb; omega⟩, ?_⟩, fun hend => ⟨fun hb => ?_, fun hb => ?_⟩⟩
  · obtain ⟨j1, j2⟩ := i4 hb
    have hpt := parTake_le (s.drop n)
    have hlen : (s.drop n).length = s.length - n := by simp
    have hpos := List.length_pos_iff.2 hne
    have hdd : s.drop (n + parTake (s.drop n)) = parLeft (s.drop n) := List.drop_drop.symm
    subst hb
    cases hpb : parBad (s.drop n) with
    | true =>
      refine ⟨(n + parTake (s.drop n), addPar l (s.drop n), true), ⟨by simp, rfl, rfl, rfl, rfl⟩, ⟨by simp only; omega, by simp only [hal]; have := i2' rfl; omega, fun h => by (cases h), fun _ => ?_, fun h => by cases h⟩, by simp only [if_true, Bool.false_eq_true, if_false]; omega⟩
      · rw [parsGo_bad hne hpb] at j2
        simp [parsOk, j2]
    | false =>
      have hlt := parLeft_lt hpb
      have hl2 : (parLeft (s.drop n)).length = s.length - n - parTake (s.drop n) := by rw [← hdd, List.length_drop]; omega
      refine ⟨(n + parTake (s.drop n), addPar l (s.drop n), false), ⟨by simp [hdd], rfl, rfl, rfl, rfl⟩, ⟨by simp only; omega, by simp only [hal]; have := i2' rfl; omega, fun _ => by simp only [hal]; have := i2' rfl; omega, fun h => by (cases h), fun _ => ⟨j1, ?_⟩⟩, by simp only [Bool.false_eq_true, if_false]; omega⟩
      simp only
      rw [j2, parsGo_step hne hpb, hdd]
      cases parsGo (parLeft (s.drop n)) with
      | none => rfl
      | some r => simp [addPar]
  · have := i3 hb
    simp [parsName, parsList, parsErr, this, h0]
  · obtain ⟨j1, j2⟩ := i4 hb
    have hnil : s.drop n = [] := by subst hb; simpa using hend
    rw [hnil, parsGo_nil] at j2
    have hok : parsOk s = true := by simp [parsOk, j1, j2]
    rw [List.take_length]
    exact ⟨by simp [parsName, hok], by simp [parsList, hok, j2], by simp [parsErr, h0, hok]⟩
def tb_specParse : List Blk → List AV → Option (List Blk × AV × Prop)
  | [], [.str s] => some ([], .tuple [.str (parsName s), enc_flds (parsList s), .int .i64 (parsErr s)], (s.length ≤ 1000000))
  | _, _ => none
theorem tb_specParse_ok : ∀ E args E' res p, tb_specParse E args = some (E', res, p) → p → SpecE Try.prog 51 E args E' res := by
  intro E args E' res p h hp
  unfold tb_specParse at h
  split at h
  · simp only [Option.some.injEq, Prod.mk.injEq] at h
    obtain ⟨rfl, rfl, rfl⟩ := h
    exact (specParse _ hp)
  · cases h

def T_specPrint : Tbl := fun g E args => (addT (addT nilT 164 Go.Proofs.Try.Oct.tb_specToken) 165 Go.Proofs.Try.Cur.tb_specQuote) g E args
theorem T_specPrint_ok : TblOK Try.prog T_specPrint := (addT_ok (addT_ok nilT_ok (by decide +kernel) Go.Proofs.Try.Oct.tb_specToken_ok) (by decide +kernel) Go.Proofs.Try.Cur.tb_specQuote_ok)
set_option maxRecDepth 100000 in
set_option maxHeartbeats 4000000 in
theorem specPrint (n : List UInt8) (l : List (List UInt8 × List UInt8)) (hn : n.length ≤ 1000000) (hl : l.length ≤ 1000) (hq : ∀ p ∈ l, p.1.length ≤ 1000000 ∧ p.2.length ≤ 1000000) : SpecE Try.prog 56 [] [.str n, enc_flds l] [] (.tuple [.str (parsText n l), .bool (parsMay n l)]) := by
  refine specF0 (C := T_specPrint) (wr := false) (D := fun _ => []) (U := fun _ => none) (res := [.str (parsText n l), .bool (parsMay n l)]) Try.Ty.mixed T_specPrint_ok Try.func56 (nA := 2) (by decide +kernel) rfl (fun _ => rfl) ?_
  simp only [Try.f56, bodyOf, rlOf]
  rw [W_V]
  simp (config := {maxSteps := 2000000}) only [T_specPrint, Go.Proofs.Try.Oct.tb_specToken, Go.Proofs.Try.Cur.tb_specQuote, go_sem, reduceIte, Nat.reduceEqDiff, Nat.reduceAdd, Nat.reduceMul, Nat.reduceSub, Nat.reduceBEq, Nat.reduceLT, Nat.reduceLeDiff, reduceCtorEq, Int.reduceNeg, Int.reduceEq, String.reduceEq, Int.reduceLT, Int.reduceLE, Int.reduceToNat, Int.reduceAdd, Int.reduceMul, Int.reduceSub]
  (try simp (config := {maxSteps := 2000000}) only [gimp, impB, isT, go_sem, reduceIte, Nat.reduceEqDiff, Nat.reduceAdd, Nat.reduceMul, Nat.reduceSub, Nat.reduceBEq, Nat.reduceLT, Nat.reduceLeDiff, reduceCtorEq, Int.reduceNeg, Int.reduceEq, String.reduceEq, Int.reduceLT, Int.reduceLE, Int.reduceToNat, Int.reduceAdd, Int.reduceMul, Int.reduceSub])
  refine ⟨fun h => by simp [parsText, parsMay, h], fun hn => ?_⟩
  refine VL_inv (X := Nat) (fun k => ⟨[(1, enc_flds l), (6, .str (textGo n (l.take k))), (15, .int .i64 l.length), (16, .int .i64 k)], []⟩) (fun k => k ≤ l.length ∧ (l.take k).all parMay = true) (fun k => l.length - k) 0 ?_ ?_ ?_
  · simp only [textGo, List.take_zero, List.flatMap_nil, List.append_nil, go_sem, go_sem, reduceIte, Nat.reduceEqDiff, Nat.reduceAdd, Nat.reduceMul, Nat.reduceSub, Nat.reduceBEq, Nat.reduceLT, Nat.reduceLeDiff, reduceCtorEq, Int.reduceNeg, Int.reduceEq, String.reduceEq, Int.reduceLT, Int.reduceLE, Int.reduceToNat, Int.reduceAdd, Int.reduceMul, Int.reduceSub]
    try rfl
  · exact ⟨Nat.zero_le _, by simp⟩
  rintro k ⟨hk, hm⟩
  simp (config := {maxSteps := 2000000}) only [T_specPrint, Go.Proofs.Try.Oct.tb_specToken, Go.Proofs.Try.Cur.tb_specQuote, go_sem, reduceIte, Nat.reduceEqDiff, Nat.reduceAdd, Nat.reduceMul, Nat.reduceSub, Nat.reduceBEq, Nat.reduceLT, Nat.reduceLeDiff, reduceCtorEq, Int.reduceNeg, Int.reduceEq, String.reduceEq, Int.reduceLT, Int.reduceLE, Int.reduceToNat, Int.reduceAdd, Int.reduceMul, Int.reduceSub]
  (try simp (config := {maxSteps := 2000000}) only [gimp, impB, isT, go_sem, reduceIte, Nat.reduceEqDiff, Nat.reduceAdd, Nat.reduceMul, Nat.reduceSub, Nat.reduceBEq, Nat.reduceLT, Nat.reduceLeDiff, reduceCtorEq, Int.reduceNeg, Int.reduceEq, String.reduceEq, Int.reduceLT, Int.reduceLE, Int.reduceToNat, Int.reduceAdd, Int.reduceMul, Int.reduceSub])
  have hmem : k < l.length → l.getD k ([], []) ∈ l := fun h => List.mem_of_getElem? (getD_of_lt (s := l) (d := ([], [])) h)
  have hbad : k < l.length → parMay (l.getD k ([], [])) = false → parsMay n l = false := fun h h' => by
    have : l.all parMay = false := List.all_eq_false.2 ⟨_, hmem h, by rw [h']; simp⟩
    simp [parsMay, this]
  have hb : k < l.length → (l.getD k ([], [])).1.length ≤ 1000000 ∧ (l.getD k ([], [])).2.length ≤ 1000000 := fun h => hq _ (hmem h)
  have hsnoc : k < l.length → textGo n (l.take (k + 1)) = textGo n (l.take k) ++ parText (l.getD k ([], [])) := fun h => by rw [take_succ_getD ([], []) h, textGo_snoc]
  have hall : k < l.length → parMay (l.getD k ([], [])) = true → (l.take (k + 1)).all parMay = true := fun h h' => by
    rw [take_succ_getD ([], []) h, List.all_append, hm]; simp only [List.all_cons, List.all_nil, h', Bool.and_true]
  generalize l.getD k ([], []) = p at *
  have htl := textGo_len (n := n) (l := l.take k) (m := 1000000) (fun p hp => hq p (List.mem_of_mem_take hp))
  have htk : (l.take k).length ≤ 1000 := by rw [List.length_take]; omega
  have htl2 : (textGo n (l.take k)).length ≤ 1000000 + 1000 * (3 * 1000000 + 4) := Nat.le_trans htl (Nat.add_le_add (by omega) (Nat.mul_le_mul htk (Nat.le_refl _)))
  have hql := quoteS_len p.2
  have hpl : (textGo n (l.take k) ++ 59 :: p.1).length = (textGo n (l.take k)).length + p.1.length + 1 := by simp; omega
  have hfin : ∀ {b : Bool}, parsMay n l = false → [] = parsText n l ∧ false = parsMay n l := fun h => ⟨by simp [parsText, h], h.symm⟩
  (repeat' (first | refine And.intro ?_ ?_ | intro _))
  all_goals (try first | omega | assumption | contradiction)
  · rename_i h1 h2
    exact (hfin (b := true) (hbad (by omega) (by simp [parMay, h2]))).1
  · rename_i h1 h2
    exact (hfin (b := true) (hbad (by omega) (by simp [parMay, h2]))).2
  · rename_i h1 h2 h3
    refine ⟨k + 1, ⟨?_, by omega⟩, ⟨by omega, hall (by omega) (by simp [parMay, h2, h3])⟩, by omega⟩
    rw [hsnoc (by omega), parText, if_pos h3, List.append_nil]
  · rename_i h1 h2 h3 h4
    exact (hfin (b := true) (hbad (by omega) (by simp [parMay, h3, h4]))).1
  · rename_i h1 h2 h3 h4
    exact (hfin (b := true) (hbad (by omega) (by simp [parMay, h3, h4]))).2
  · rename_i h1 h2 h3 h4
    refine ⟨k + 1, ⟨?_, by omega⟩, ⟨by omega, hall (by omega) (by simp [parMay, h2, h4])⟩, by omega⟩
    rw [hsnoc (by omega), parText, if_neg h3]
  · have e : k = l.length := by omega
    subst e
    rw [List.take_length] at hm ⊢
    have : parsMay n l = true := by simp [parsMay, hn, hm]
    simp [parsText, this]
  · have e : k = l.length := by omega
    subst e
    rw [List.take_length] at hm
    simp [parsMay, hn, hm]
def tb_specPrint : List Blk → List AV → Option (List Blk × AV × Prop)
  | [], [.str n, a1] => some ([], .tuple [.str (parsText n (dec_flds a1)), .bool (parsMay n (dec_flds a1))], (n.length ≤ 1000000) ∧ ((dec_flds a1).length ≤ 1000) ∧ (∀ p ∈ (dec_flds a1), p.1.length ≤ 1000000 ∧ p.2.length ≤ 1000000) ∧ argOK a1 (enc_flds (dec_flds a1)))
  | _, _ => none
theorem tb_specPrint_ok : ∀ E args E' res p, tb_specPrint E args = some (E', res, p) → p → SpecE Try.prog 56 E args E' res := by
  intro E args E' res p h hp
  unfold tb_specPrint at h
  split at h
  · simp only [Option.some.injEq, Prod.mk.injEq] at h
    obtain ⟨rfl, rfl, rfl⟩ := h
    exact SpecE.args (specPrint _ _ hp.1 hp.2.1 hp.2.2.1) (.cons (argOK.refl _) (.cons hp.2.2.2 .nil))
  · cases h
end Go.Proofs.Try.Par
