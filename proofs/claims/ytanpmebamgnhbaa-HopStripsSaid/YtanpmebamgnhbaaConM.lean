/- connection: what is computed. No condition. -/
import Derived.Test.YtanpmebamgnhbaaHdrM
import Derived.Test.YtanpmebamgnhbaaDigM
import Derived.Test.YtanpmebamgnhbaaLibM
set_option linter.unusedVariables false
set_option linter.unusedSimpArgs false
namespace Go.Mdl
open Go Go.Abs

def nmConnection : List UInt8 := [67, 111, 110, 110, 101, 99, 116, 105, 111, 110]
def nmKeepAlive : List UInt8 := [75, 101, 101, 112, 45, 65, 108, 105, 118, 101]
def wdClose : List UInt8 := [99, 108, 111, 115, 101]
def wdKeep : List UInt8 := [107, 101, 101, 112, 45, 97, 108, 105, 118, 101]
/-- The words of fields: whether they may be, and they. -/
def wordsOk (s : List UInt8) : Bool := endsS s && (splitS s).all tokenS
def wordsS (s : List UInt8) : List (List UInt8) := if wordsOk s = true then (splitS s).map lowerS else []
def conOk (l : List Fld) : Bool := wordsOk (combS l nmConnection)
def conW (l : List Fld) : List (List UInt8) := wordsS (combS l nmConnection)
def conE (l : List Fld) : Int := if conOk l = true then 0 else 3
def inL (l : List (List UInt8)) (w : List UInt8) : Bool := l.any fun x => decide (x = w)
def conHas (l : List Fld) (w : List UInt8) : Bool := inL (conW l) (lowerS w)
def conPer (minor : Int) (l : List Fld) : Bool := conOk l && (!inL (conW l) wdClose && (decide (0 < minor) || inL (conW l) wdKeep))

theorem lowerB_twice (c : UInt8) : lowerB (lowerB c) = lowerB c := by
  unfold lowerB
  split
  · rename_i h
    have : (c + 32).toNat = c.toNat + 32 := by rw [UInt8.toNat_add]; simp; omega
    rw [if_neg (by omega)]
  · rfl
theorem lowerS_lowerS (s : List UInt8) : lowerS (lowerS s) = lowerS s := by
  simp only [lowerS, List.map_map]
  exact List.map_congr_left fun c _ => lowerB_twice c
/-- The words, the first of them in small letters. -/
def lowTo (w : List (List UInt8)) (k : Nat) : List (List UInt8) := (w.take k).map lowerS ++ w.drop k
theorem lowTo_len (w : List (List UInt8)) (k : Nat) : (lowTo w k).length = w.length := by
  simp only [lowTo, List.length_append, List.length_map, List.length_take, List.length_drop]; omega
theorem lowTo_zero (w : List (List UInt8)) : lowTo w 0 = w := by simp [lowTo]
theorem lowTo_end (w : List (List UInt8)) : lowTo w w.length = w.map lowerS := by simp [lowTo]
theorem lowTo_get {w : List (List UInt8)} {k : Nat} (h : k < w.length) : (lowTo w k).getD k [] = w.getD k [] := by
  have hl : ((w.take k).map lowerS).length = k := by rw [List.length_map, List.length_take]; omega
  simp only [lowTo, List.getD_eq_getElem?_getD]
  rw [List.getElem?_append_right (by omega), hl, List.getElem?_drop]; simp
theorem lowTo_set {w : List (List UInt8)} {k : Nat} (h : k < w.length) : (lowTo w k).set k (lowerS (w.getD k [])) = lowTo w (k + 1) := by
  have hl : ((w.take k).map lowerS).length = k := by rw [List.length_map, List.length_take]; omega
  simp only [lowTo]
  rw [List.set_append_right _ _ (by omega), hl, Nat.sub_self]
  have hd : w.drop k = w.getD k [] :: w.drop (k + 1) := by
    rw [List.drop_eq_getElem_cons h]; simp [List.getElem?_eq_getElem h]
  rw [hd, take_succ_getD [] h, List.set_cons_zero]
  simp
theorem conW_low {l : List Fld} {w : List UInt8} (h : w ∈ conW l) : lowerS w = w := by
  unfold conW wordsS at h
  split at h
  · obtain ⟨x, _, rfl⟩ := List.mem_map.1 h
    exact lowerS_lowerS x
  · cases h
theorem inL_iff {l : List (List UInt8)} {w : List UInt8} : inL l w = true ↔ w ∈ l := by
  simp [inL]
theorem wordsS_len {s w : List UInt8} (h : w ∈ wordsS s) : w.length ≤ s.length := by
  unfold wordsS at h
  split at h
  · obtain ⟨x, hx, rfl⟩ := List.mem_map.1 h
    rw [lowerS_len]; exact (splitS_mem hx).1
  · cases h
theorem wordsS_count (s : List UInt8) : (wordsS s).length ≤ s.length + 1 := by
  unfold wordsS
  split
  · rw [List.length_map]; exact splitS_count s
  · simp

/-- How long fields say that a connection is kept: an element more. -/
def aliveStep (x : Int × Int × Bool) (e : List UInt8) : Int × Int × Bool :=
  if upTo 61 e < e.length then
    if lowerS (trimS (e.take (upTo 61 e))) = [116, 105, 109, 101, 111, 117, 116] then (numVal 10 1073741824 (trimS (e.drop (upTo 61 e + 1))), x.2.1, x.2.2 && decide (numErr 10 1073741824 (trimS (e.drop (upTo 61 e + 1))) = 0))
    else if lowerS (trimS (e.take (upTo 61 e))) = [109, 97, 120] then (x.1, numVal 10 1073741824 (trimS (e.drop (upTo 61 e + 1))), x.2.2 && decide (numErr 10 1073741824 (trimS (e.drop (upTo 61 e + 1))) = 0))
    else x
  else x
def aliveF (l : List (List UInt8)) : Int × Int × Bool := l.foldl aliveStep (0, 0, true)
def aliveOk (l : List Fld) : Bool := hasF l nmKeepAlive && (endsS (combS l nmKeepAlive) && (aliveF (splitS (combS l nmKeepAlive))).2.2)
def aliveT (l : List Fld) : Int := if aliveOk l = true then (aliveF (splitS (combS l nmKeepAlive))).1 else 0
def aliveM (l : List Fld) : Int := if aliveOk l = true then (aliveF (splitS (combS l nmKeepAlive))).2.1 else 0
theorem aliveStep_good (x : Int × Int × Bool) (e : List UInt8) (h : x.2.2 = false) : (aliveStep x e).2.2 = false := by
  unfold aliveStep
  split
  · split
    · simp [h]
    · split
      · simp [h]
      · exact h
  · exact h
theorem aliveF_bad : ∀ (l : List (List UInt8)) (x : Int × Int × Bool), x.2.2 = false → (l.foldl aliveStep x).2.2 = false
  | [], x, h => h
  | e :: r, x, h => aliveF_bad r _ (aliveStep_good x e h)
theorem aliveF_take_succ {l : List (List UInt8)} {k : Nat} (h : k < l.length) : aliveF (l.take (k + 1)) = aliveStep (aliveF (l.take k)) (l.getD k []) := by
  rw [take_succ_getD [] h, aliveF, List.foldl_append]; rfl
theorem aliveF_take_bad {l : List (List UInt8)} {k : Nat} (h : (aliveF (l.take k)).2.2 = false) : (aliveF l).2.2 = false := by
  have := aliveF_bad (l.drop k) _ h
  rw [aliveF, ← List.foldl_append, List.take_append_drop] at this
  exact this
theorem comb_len2 {l : List Fld} (n : List UInt8) (hl : l.length ≤ 1000) (hq : ∀ f ∈ l, f.2.length ≤ 50000) : (combS l n).length ≤ 50002000 := by
  have h3 := allS_len l n
  have h4 := joinS_len (l := allS l n) (m := 50000) (fun e he => by obtain ⟨f, hf, rfl, _⟩ := allS_mem he; exact hq f hf)
  have h5 := Nat.mul_le_mul (show (allS l n).length ≤ 1000 by omega) (Nat.le_refl (50000 + 2))
  unfold combS; omega
theorem conW_count {l : List Fld} (hl : l.length ≤ 1000) (hq : ∀ f ∈ l, f.2.length ≤ 50000) : (conW l).length ≤ maxLen := by
  have h1 := comb_len2 nmConnection hl hq
  have h2 := wordsS_count (combS l nmConnection)
  have hm : (50002001 : Nat) ≤ maxLen := by decide
  unfold conW; omega
theorem upTo_stop {c : UInt8} : ∀ {s : List UInt8} {x : Nat}, x ≤ s.length → (s.take x).all (fun b => !decide (b = c)) = true → (x < s.length → s.getD x 0 = c) → x = upTo c s
  | [], x, hx, _, _ => by simp at hx; simp [upTo, hx]
  | b :: l, x, hx, hn, he => by
    cases x with
    | zero => have := he (by simp); simp at this; simp [upTo, this]
    | succ x =>
      simp only [List.take_succ_cons, List.all_cons, Bool.and_eq_true, Bool.not_eq_true', decide_eq_false_iff_not] at hn
      have := upTo_stop (s := l) (x := x) (by simpa using hx) hn.2 (fun h => by have := he (by simpa using h); simpa using this)
      simp [upTo, hn.1, ← this]
theorem comb_len3 {l : List Fld} (n : List UInt8) (hl : l.length ≤ 1000) (hq : ∀ f ∈ l, f.2.length ≤ 900) : (combS l n).length ≤ 902000 := by
  have h3 := allS_len l n
  have h4 := joinS_len (l := allS l n) (m := 900) (fun e he => by obtain ⟨f, hf, rfl, _⟩ := allS_mem he; exact hq f hf)
  have h5 := Nat.mul_le_mul (show (allS l n).length ≤ 1000 by omega) (Nat.le_refl (900 + 2))
  unfold combS; omega
/-! ### a field more -/
theorem see_open {x : Scan} {c : UInt8} (h : x.fine) (h1 : x.closed = false) (h2 : c ≠ 34) (h3 : c ≠ 41) : (x.see c).closed = false := by
  obtain ⟨q, s, d⟩ := x
  simp only [Scan.fine, Scan.closed, Scan.see] at *
  cases q <;> cases s <;> simp at * <;> (repeat' split) <;> simp_all <;> omega
theorem run_open : ∀ {t : List UInt8} {x : Scan}, x.fine → x.closed = false → (∀ c ∈ t, c ≠ 34 ∧ c ≠ 41) → (x.run t).closed = false
  | [], x, _, h, _ => h
  | c :: r, x, hf, h, ht => by
    have h1 := ht c (by simp)
    exact run_open (t := r) (Scan.fine_see hf c) (see_open hf h h1.1 h1.2) (fun y hy => ht y (List.mem_cons_of_mem _ hy))
theorem ends_open {a t : List UInt8} (h : endsS a = false) (ht : ∀ c ∈ t, c ≠ 34 ∧ c ≠ 41) : endsS (a ++ t) = false := by
  unfold endsS at h ⊢
  rw [Scan.run_append]
  exact run_open (Scan.fine_run a (by intro h; cases h)) h ht
theorem elems_comma : ∀ {a : List UInt8} (x : Scan) (cur r : List UInt8), (x.run a).closed = true → elemsGo x cur (a ++ 44 :: r) = elemsGo x cur a ++ elemsGo scan0 [] r
  | [], x, cur, r, h => by
    have hx : x = scan0 := Scan.closed_iff.1 h
    rw [List.nil_append, elemsGo_cons, if_pos ⟨rfl, h⟩, hx]
    simp [elemsGo]
  | c :: a, x, cur, r, h => by
    rw [List.cons_append, elemsGo_cons, elemsGo_cons]
    split
    · rename_i hc
      have hx : x = scan0 := Scan.closed_iff.1 hc.2
      rw [Scan.run_cons, hc.1, hx, see_top (by decide) (by decide)] at h
      rw [hx, elems_comma scan0 [] r h]; rfl
    · exact elems_comma (x.see c) _ r h
theorem ends_comma {a r : List UInt8} (h : endsS a = true) : endsS (a ++ 44 :: r) = endsS r := by
  have hx : scan0.run a = scan0 := Scan.closed_iff.1 h
  unfold endsS
  rw [Scan.run_append, hx, Scan.run_cons, see_top (by decide) (by decide)]
theorem split_comma {a r : List UInt8} (h : endsS a = true) (hr : endsS r = true) : splitS (a ++ 44 :: r) = splitS a ++ splitS r := by
  rw [splitS, if_pos (by rw [ends_comma h]; exact hr), splitS, if_pos h, splitS, if_pos hr]
  simp only [elemsS]
  rw [elems_comma scan0 [] r h, keepE_append]
theorem allS_with (l : List Fld) (n v m : List UInt8) (h : lowerS m = lowerS n) : allS (withS l n v) m = allS l m ++ [v] := by
  have : isN [m] (n, v) = true := by simp [isN, foldS, h]
  simp only [allS, withS, List.filter_append, List.filter_cons_of_pos this, List.map_append]; rfl
theorem close_more (l : List Fld) (m : Int) : conPer m (withS l [99, 111, 110, 110, 101, 99, 116, 105, 111, 110] [67, 108, 111, 115, 101]) = false := by
  have hA := allS_with l [99, 111, 110, 110, 101, 99, 116, 105, 111, 110] [67, 108, 111, 115, 101] nmConnection (by decide +kernel)
  generalize withS l [99, 111, 110, 110, 101, 99, 116, 105, 111, 110] [67, 108, 111, 115, 101] = l2 at *
  have hkey : conOk l2 = false ∨ inL (conW l2) wdClose = true := by
    have hc : combS l2 nmConnection = if allS l nmConnection = [] then [67, 108, 111, 115, 101] else joinS (allS l nmConnection) ++ 44 :: [32, 67, 108, 111, 115, 101] := by
      rw [combS, hA, joinS_snoc]
    by_cases h0 : allS l nmConnection = []
    · right
      rw [if_pos h0] at hc
      rw [conW, hc]; decide +kernel
    · rw [if_neg h0] at hc
      generalize joinS (allS l nmConnection) = J at *
      cases hJ : endsS J with
      | false =>
        left
        have : endsS (J ++ 44 :: [32, 67, 108, 111, 115, 101]) = false := ends_open hJ (by decide)
        rw [conOk, hc, wordsOk, this]; rfl
      | true =>
        have hsp : splitS (J ++ 44 :: [32, 67, 108, 111, 115, 101]) = splitS J ++ [[67, 108, 111, 115, 101]] := by
          rw [split_comma hJ (by decide +kernel)]
          congr 1
        cases ho : conOk l2 with
        | false => exact .inl rfl
        | true =>
          right
          rw [inL_iff, conW, wordsS, if_pos (show wordsOk (combS l2 nmConnection) = true from ho), hc, hsp, List.map_append]
          exact List.mem_append_right _ (by decide +kernel)
  unfold conPer
  rcases hkey with h | h <;> simp [h]
end Go.Mdl
