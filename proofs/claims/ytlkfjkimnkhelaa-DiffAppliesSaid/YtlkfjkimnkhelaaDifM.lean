/- diff: rows, as the evaluator has them. No condition. -/
import Derived.Test.YtlkfjkimnkhelaaDifT
import Derived.Test.YtlkfjkimnkhelaaOctC
set_option linter.unusedVariables false
set_option linter.unusedSimpArgs false
namespace Go.Mdl
open Go Go.Abs

abbrev Rw := Int × List UInt8
def enc_rw (p : Rw) : AV := .agg [.int .i64 p.1, .str p.2]
def dec_rw : AV → Rw
  | .agg [.int _ n, .str s] => (n, s)
  | _ => (0, [])
def enc_rws (l : List Rw) : AV := .list 2 (l.map enc_rw)
def dec_rws (a : AV) : List Rw := (listOf a).map dec_rw
theorem getD_map_rw (l : List Rw) (n : Nat) : (l.map enc_rw).getD n (.agg [.int .i64 0, .str []]) = enc_rw (l.getD n (0, [])) := by
  simp only [List.getD_eq_getElem?_getD, List.getElem?_map]; cases l[n]? <;> rfl
theorem map_rw (l : List Rw) : (l.map enc_rw).map dec_rw = l := by simp [List.map_map, Function.comp_def, enc_rw, dec_rw]
theorem pure_rw (p : Rw) : pureBL (enc_rw p).cells = true := rfl
theorem pids_rw (p : Rw) : pids (enc_rw p) = [] := rfl
theorem ren_rw (σ : Nat → Nat) (p : Rw) : ren σ (enc_rw p) = enc_rw p := rfl
theorem ref_rw (p : Rw) : refOf (enc_rw p) = none := rfl
theorem cells_rw (p : Rw) : (enc_rw p).cells = [.int .i64 p.1, .str p.2] := rfl
theorem pureEl_rw (l : List Rw) : pureEl (l.map enc_rw) = true := pureEl_map enc_rw l (fun _ => rfl)
theorem oneRef_rw (l : List Rw) : oneRef (l.map enc_rw) = none := oneRef_map (fun _ => rfl) l
theorem pidsL_rw (l : List Rw) : pidsL (l.map enc_rw) = [] := pidsL_map (fun _ => rfl) l
theorem renL_rw (σ : Nat → Nat) (l : List Rw) : (l.map enc_rw).map (ren σ) = l.map enc_rw := ren_map (fun _ => rfl) l
attribute [go_sem] enc_rw pureEl_rw oneRef_rw pidsL_rw renL_rw cells_rw getD_map_rw map_rw pure_rw pids_rw ren_rw ref_rw enc_rws dec_rws

theorem map_rw_snoc (l : List Rw) (n : Int) (s : List UInt8) : l.map enc_rw ++ [.agg [.int .i64 n, .str s]] = (l ++ [(n, s)]).map enc_rw := by rw [List.map_append]; rfl
theorem turnS_len (l : List Rw) : (turnS l).length = l.length := by simp [turnS]
theorem turn_step {l : List Rw} {x : Nat} (hx : x < l.length) (v : Int) (hv : v = if (l.getD x (0, [])).1 = 1 then 2 else if (l.getD x (0, [])).1 = 2 then 1 else (l.getD x (0, [])).1) :
    ((turnS (l.take x) ++ List.replicate (l.length - x) (0, [])).map enc_rw).set (0 + x) (.agg [.int .i64 v, .str (l.getD x (0, [])).2]) = (turnS (l.take (x + 1)) ++ List.replicate (l.length - (x + 1)) (0, [])).map enc_rw := by
  show List.set _ _ (enc_rw (v, (l.getD x (0, [])).2)) = _
  have h1 : (turnS (l.take x)).length = x := by rw [turnS_len, List.length_take]; omega
  rw [← List.map_set, Nat.zero_add, List.set_append_right _ _ (by omega), h1, Nat.sub_self, show l.length - x = (l.length - (x + 1)) + 1 by omega, List.replicate_succ, List.set_cons_zero, take_succ_getD (0, []) hx]
  simp only [turnS, List.map_append, List.map_cons, List.map_nil, List.append_assoc, List.cons_append, List.nil_append]
  rw [← hv]
theorem applyS_fit (a : List (List UInt8)) (s : Int) (t : List UInt8) (r : List Rw) (h : s = 0 ∨ s = 1) (h2 : a = [] ∨ ¬ a.getD 0 [] = t) : applyS a ((s, t) :: r) = none := by
  cases a with
  | nil => rcases h with rfl | rfl <;> simp [applyS]
  | cons x a =>
    have : ¬ x = t := by rcases h2 with h2 | h2; cases h2; exact h2
    rcases h with rfl | rfl <;> simp [applyS, this]
theorem applyS_bad (a : List (List UInt8)) (s : Int) (t : List UInt8) (r : List Rw) (h : s < 0 ∨ 2 < s) : applyS a ((s, t) :: r) = none := by
  have h : s < 0 ∨ s > 2 := h
  unfold applyS
  rw [if_pos h]
end Go.Mdl
namespace Go.Proofs.Try.Dif
open Go Go.Abs Go.Mdl
theorem rowF_ref (m : Nat) (g : Nat → Int) : oneRef (rowF m g) = none := oneRef_map (fun _ => rfl) _
def tabL (a b : List (List UInt8)) : List AV := (List.range (a.length + 1)).map fun i => .list 1 (rowF (b.length + 1) fun k => (lcs (a.drop i) (b.drop k) : Nat))
theorem tabAV_eq (a b : List (List UInt8)) : tabAV a b = .list 1 (tabL a b) := rfl
theorem tabL_len (a b : List (List UInt8)) : (tabL a b).length = a.length + 1 := by simp [tabL]
theorem tabL_get {a b : List (List UInt8)} {i : Nat} (h : i ≤ a.length) (d : AV) : (tabL a b).getD i d = .list 1 (rowF (b.length + 1) fun k => (lcs (a.drop i) (b.drop k) : Nat)) := by
  simp [tabL, List.getD_eq_getElem?_getD, List.getElem?_map, List.getElem?_range (show i < a.length + 1 by omega)]
theorem map_ren_rw (σ : Nat → Nat) (l : List Rw) (n : Int) (s : List UInt8) : (l.map enc_rw ++ [AV.agg [AV.int .i64 n, AV.str s]]).map (ren σ) = (l ++ [(n, s)]).map enc_rw := by rw [map_rw_snoc, renL_rw]
theorem at_same {a b : List (List UInt8)} {i k : Nat} (hi : i < a.length) (hk : k < b.length) (h : a.getD i [] = b.getD k []) : linesS (a.drop i) (b.drop k) = (0, a.getD i []) :: linesS (a.drop (i + 1)) (b.drop (k + 1)) := by
  rw [drop_get hi, drop_get hk, linesS_cc, if_pos h]
theorem at_gone {a b : List (List UInt8)} {i k : Nat} (hi : i < a.length) (hk : k < b.length) (h : ¬ a.getD i [] = b.getD k []) (hl : (lcs (a.drop i) (b.drop (k + 1)) : Int) ≤ (lcs (a.drop (i + 1)) (b.drop k) : Nat)) : linesS (a.drop i) (b.drop k) = (1, a.getD i []) :: linesS (a.drop (i + 1)) (b.drop k) := by
  have hl : lcs (a.drop i) (b.drop (k + 1)) ≤ lcs (a.drop (i + 1)) (b.drop k) := by omega
  rw [drop_get hi] at hl
  conv at hl => rhs; rw [drop_get hk]
  rw [drop_get hi, drop_get hk, linesS_cc, if_neg h, if_pos hl]
theorem at_new {a b : List (List UInt8)} {i k : Nat} (hi : i < a.length) (hk : k < b.length) (h : ¬ a.getD i [] = b.getD k []) (hl : ¬ (lcs (a.drop i) (b.drop (k + 1)) : Int) ≤ (lcs (a.drop (i + 1)) (b.drop k) : Nat)) : linesS (a.drop i) (b.drop k) = (2, b.getD k []) :: linesS (a.drop i) (b.drop (k + 1)) := by
  have hl : ¬ lcs (a.drop i) (b.drop (k + 1)) ≤ lcs (a.drop (i + 1)) (b.drop k) := by omega
  rw [drop_get hi] at hl
  conv at hl => rhs; rhs; rw [drop_get hk]
  rw [drop_get hi, drop_get hk, linesS_cc, if_neg h, if_neg hl]
theorem at_rest {a b : List (List UInt8)} {i k : Nat} (hi : i < a.length) (hk : b.length ≤ k) : linesS (a.drop i) (b.drop k) = (1, a.getD i []) :: linesS (a.drop (i + 1)) (b.drop k) := by
  rw [drop_get hi, List.drop_eq_nil_of_le hk, linesS_cn]
theorem at_add {a b : List (List UInt8)} {i k : Nat} (hi : a.length ≤ i) (hk : k < b.length) : linesS (a.drop i) (b.drop k) = (2, b.getD k []) :: linesS (a.drop i) (b.drop (k + 1)) := by
  rw [drop_get hk, List.drop_eq_nil_of_le hi, linesS_nc]
theorem rowF_getI (m j : Nat) (g : Nat → Int) : (rowF m g).getD j (.int .i64 0) = .int .i64 (if j < m then g j else 0) := by
  by_cases h : j < m
  · rw [rowF_get h, if_pos h]
  · rw [if_neg h, List.getD_eq_getElem?_getD, List.getElem?_eq_none (by rw [rowF_len]; omega)]; rfl
theorem tabL_out {a b : List (List UInt8)} {i : Nat} (h : a.length < i) : (tabL a b).getD i .nils = .nils := by
  rw [List.getD_eq_getElem?_getD, List.getElem?_eq_none (by rw [tabL_len]; omega)]; rfl
theorem rowF_zero0 (m : Nat) : List.replicate m (AV.int .i64 0) = rowF m fun _ => 0 := by
  refine (List.eq_replicate_iff.2 ⟨by simp [rowF], fun b hb => ?_⟩).symm
  obtain ⟨_, _, rfl⟩ := List.mem_map.1 hb
  rfl
end Go.Proofs.Try.Dif
