/- cache: what is computed. No condition. -/
import Derived.Test.YtanpmebamgnhbaaHdrM
import Derived.Test.YtanpmebamgnhbaaParL
import Derived.Test.YtanpmebamgnhbaaDigM
set_option linter.unusedVariables false
set_option linter.unusedSimpArgs false
namespace Go.Mdl
open Go Go.Abs

/-- A directive: its name, its value, whether it has one. -/
abbrev Dir := List UInt8 × List UInt8 × Bool
def dir0 : Dir := ([], [], false)
def enc_dir (d : Dir) : AV := .agg [.str d.1, .str d.2.1, .bool d.2.2]
def toBoo : AV → Bool
  | .bool b => b
  | _ => false
def dec_dir : AV → Dir
  | .agg [a, b, c] => (toStr a, toStr b, toBoo c)
  | _ => dir0
def enc_dirs (l : List Dir) : AV := .list 3 (l.map enc_dir)
def dec_dirs (a : AV) : List Dir := (listOf a).map dec_dir
theorem dec_enc_dir (d : Dir) : dec_dir (enc_dir d) = d := rfl
theorem getD_map_dir (l : List Dir) (n : Nat) : (l.map enc_dir).getD n (.agg [.str [], .str [], .bool false]) = enc_dir (l.getD n dir0) := by
  simp only [List.getD_eq_getElem?_getD, List.getElem?_map]; cases l[n]? <;> rfl
theorem map_dir (l : List Dir) : (l.map enc_dir).map dec_dir = l := by simp [List.map_map, Function.comp_def, dec_enc_dir]
theorem pure_dir (p : Dir) : pureBL (enc_dir p).cells = true := rfl
theorem pids_dir (p : Dir) : pids (enc_dir p) = [] := rfl
theorem ren_dir (σ : Nat → Nat) (p : Dir) : ren σ (enc_dir p) = enc_dir p := rfl
theorem ref_dir (p : Dir) : refOf (enc_dir p) = none := rfl
theorem cells_dir (p : Dir) : (enc_dir p).cells = [.str p.1, .str p.2.1, .bool p.2.2] := rfl
theorem pureEl_dir (l : List Dir) : pureEl (l.map enc_dir) = true := pureEl_map enc_dir l (fun _ => rfl)
theorem oneRef_dir (l : List Dir) : oneRef (l.map enc_dir) = none := oneRef_map (fun _ => rfl) l
theorem pidsL_dir (l : List Dir) : pidsL (l.map enc_dir) = [] := pidsL_map (fun _ => rfl) l
theorem renL_dir (σ : Nat → Nat) (l : List Dir) : (l.map enc_dir).map (ren σ) = l.map enc_dir := ren_map (fun _ => rfl) l
attribute [go_sem] toBoo enc_dir pureEl_dir oneRef_dir pidsL_dir renL_dir cells_dir getD_map_dir map_dir pure_dir pids_dir ren_dir ref_dir enc_dirs dec_dirs

/-- The directive that an element is, and whether it is one. -/
def dirN (s : List UInt8) : Nat := spanL tcharB s
def dirSet (s : List UInt8) : Bool := decide ((s.drop (dirN s)).head? = some 61)
def dirR (s : List UInt8) : List UInt8 := s.drop (dirN s + 1)
def dirV (s : List UInt8) : List UInt8 := if dirSet s = true then (if spanL tcharB (dirR s) = 0 then qText (dirR s) else (dirR s).take (spanL tcharB (dirR s))) else []
def dirEnd (s : List UInt8) : Nat := if dirSet s = true then dirN s + 1 + (if spanL tcharB (dirR s) = 0 then qLen (dirR s) else spanL tcharB (dirR s)) else dirN s
def dirQ (s : List UInt8) : Bool := if dirSet s = true then (if spanL tcharB (dirR s) = 0 then qHas (dirR s) else true) else true
def dirOk (s : List UInt8) : Bool := dirQ s && (!decide (dirN s = 0) && decide (s.drop (dirEnd s) = []))
def dirS (s : List UInt8) : Dir := (lowerS (s.take (dirN s)), dirV s, dirSet s)
/-- The directives that a text is. -/
def dirsOk (s : List UInt8) : Bool := endsS s && (splitS s).all dirOk
def dirsS (s : List UInt8) : List Dir := if dirsOk s = true then (splitS s).map dirS else []
/-- The text of directives. -/
def dirMay (d : Dir) : Bool := tokenS d.1 && (quoteOk d.2.1 && (d.2.2 || decide (d.2.1 = [])))
def dirText (d : Dir) : List UInt8 := if d.2.2 = true then d.1 ++ 61 :: quoteS d.2.1 else d.1
def dirsMay (l : List Dir) : Bool := l.all dirMay
def dirsText (l : List Dir) : List UInt8 := if dirsMay l = true then joinS (l.map dirText) else []
/-- What fields say to caches. -/
def nmCC : List UInt8 := [67, 97, 99, 104, 101, 45, 67, 111, 110, 116, 114, 111, 108]
def ctlS (l : List Fld) : List Dir := dirsS (combS l nmCC)
def dirIs (n : List UInt8) (d : Dir) : Bool := decide (d.1 = lowerS n)
def ctlHas (l : List Fld) (n : List UInt8) : Bool := (ctlS l).any (dirIs n)
def wdAge : List UInt8 := [109, 97, 120, 45, 97, 103, 101]
def ageV (l : List Fld) : List UInt8 := ((ctlS l).getD ((ctlS l).findIdx (dirIs wdAge)) dir0).2.1
def ageN (l : List Fld) : Int := if ctlHas l wdAge = true then (if numErr 10 2147483647 (ageV l) = 5 then 2147483647 else numVal 10 2147483647 (ageV l)) else 0
def ageOk (l : List Fld) : Bool := ctlHas l wdAge && (decide (numErr 10 2147483647 (ageV l) = 5) || decide (numErr 10 2147483647 (ageV l) = 0))
def pragS (l : List Fld) : Bool := hasS (combS l [80, 114, 97, 103, 109, 97]) [110, 111, 45, 99, 97, 99, 104, 101]

theorem dirN_le (s : List UInt8) : dirN s ≤ s.length := spanL_le _ _
theorem dirSet_lt {s : List UInt8} (h : dirSet s = true) : dirN s + 1 ≤ s.length := head_lt (by simpa [dirSet] using h)
theorem dirEnd_le (s : List UInt8) : dirEnd s ≤ s.length := by
  unfold dirEnd
  split
  · rename_i h
    have h1 := dirSet_lt h
    have h2 : (dirR s).length = s.length - (dirN s + 1) := by simp [dirR]
    split
    · have := qLen_le (dirR s); omega
    · have := spanL_le tcharB (dirR s); omega
  · exact dirN_le s
theorem dirV_len (s : List UInt8) : (dirV s).length ≤ s.length := by
  unfold dirV
  split
  · rename_i h
    have h2 : (dirR s).length ≤ s.length := by simp [dirR]
    split
    · have := qText_len (dirR s); have := qLen_le (dirR s); omega
    · rw [List.length_take]; omega
  · simp
theorem dirText_len (d : Dir) : (dirText d).length ≤ d.1.length + 2 * d.2.1.length + 3 := by
  have := quoteS_len d.2.1
  unfold dirText
  split
  · simp; omega
  · omega
theorem dirS_len {s : List UInt8} : (dirS s).1.length ≤ s.length ∧ (dirS s).2.1.length ≤ s.length := by
  refine ⟨?_, dirV_len s⟩
  simp only [dirS, lowerS_len, List.length_take]; omega
theorem dirsS_mem {s : List UInt8} {d : Dir} (h : d ∈ dirsS s) : ∃ e ∈ splitS s, dirOk e = true ∧ d = dirS e := by
  unfold dirsS at h
  split at h
  · rename_i ho
    simp only [dirsOk, Bool.and_eq_true, List.all_eq_true] at ho
    obtain ⟨e, he, rfl⟩ := List.mem_map.1 h
    exact ⟨e, he, ho.2 e he, rfl⟩
  · cases h
theorem dirsS_count (s : List UInt8) : (dirsS s).length ≤ s.length + 1 := by
  unfold dirsS
  split
  · rw [List.length_map]; exact splitS_count s
  · simp

/-! ### read, printed, read again -/
theorem dir_may {e : List UInt8} (h : dirOk e = true) : dirMay (dirS e) = true ∧ lowerS (dirS e).1 = (dirS e).1 := by
  simp only [dirOk, Bool.and_eq_true, Bool.not_eq_true', decide_eq_false_iff_not, decide_eq_true_eq] at h
  obtain ⟨h1, h2, h3⟩ := h
  have ht := span_token' (s := e) (n := dirN e) rfl h2
  obtain ⟨l1, l2⟩ := lower_token ht
  refine ⟨?_, l2⟩
  simp only [dirMay, dirS, l1, Bool.true_and, Bool.and_eq_true, Bool.or_eq_true, decide_eq_true_eq]
  cases hs : dirSet e with
  | false =>
    have hv : dirV e = [] := by simp [dirV, hs]
    exact ⟨by rw [hv]; decide, .inr (decide_eq_true hv)⟩
  | true =>
    refine ⟨?_, .inl rfl⟩
    unfold dirV
    rw [if_pos hs]
    split
    · simp only [quoteOk, qText_value, Bool.or_true]
    · rename_i hn
      have := span_token' (s := dirR e) (n := spanL tcharB (dirR e)) rfl hn
      simp only [quoteOk, this, Bool.true_or]
/-- The text of a directive is read as it. -/
theorem dir_text {d : Dir} (h : dirMay d = true) (hl : lowerS d.1 = d.1) (hv : d.2.2 = false → d.2.1 = []) : dirOk (dirText d) = true ∧ dirS (dirText d) = d := by
  obtain ⟨n, v, b⟩ := d
  simp only [dirMay, Bool.and_eq_true, Bool.or_eq_true, decide_eq_true_eq] at h hl hv
  obtain ⟨ht, hq, _⟩ := h
  obtain ⟨c, t, e2, hc, hall⟩ := token_head ht
  have hpos : ¬ n.length = 0 := by rw [e2]; simp
  cases b with
  | false =>
    have := hv rfl
    subst this
    have e : dirText (n, [], false) = n := rfl
    have hn : dirN n = n.length := span_end hall
    have hs : dirSet n = false := by unfold dirSet; rw [hn]; simp
    have he : dirEnd n = n.length := by unfold dirEnd; rw [hs]; simp [hn]
    rw [e]
    refine ⟨?_, ?_⟩
    · simp only [dirOk, dirQ, hs, hn, he]; simp; intro h; rw [h] at hpos; exact hpos rfl
    · simp only [dirS, hn, List.take_length, hl, dirV, hs]; simp
  | true =>
    have e : dirText (n, v, true) = n ++ 61 :: quoteS v := rfl
    rw [e]
    have hn : dirN (n ++ 61 :: quoteS v) = n.length := span_stop hall (.inr ⟨61, _, rfl, by decide⟩)
    have hs : dirSet (n ++ 61 :: quoteS v) = true := by unfold dirSet; rw [hn, List.drop_left' rfl]; simp
    have hr : dirR (n ++ 61 :: quoteS v) = quoteS v := by
      unfold dirR; rw [hn, ← List.drop_drop, List.drop_left' rfl]; rfl
    have htk : (n ++ 61 :: quoteS v).take n.length = n := List.take_left' rfl
    have hlen : (n ++ 61 :: quoteS v).length = n.length + 1 + (quoteS v).length := by simp; omega
    rcases quoteOk_cases hq with ⟨htv, ev⟩ | ⟨htv, hval, ev⟩
    · obtain ⟨c', t', e2', hc', hall'⟩ := token_head htv
      have hsp : spanL tcharB (quoteS v) = v.length := by rw [ev]; exact span_end hall'
      have hp : ¬ v.length = 0 := by rw [e2']; simp
      have he : dirEnd (n ++ 61 :: quoteS v) = (n ++ 61 :: quoteS v).length := by
        unfold dirEnd; rw [if_pos hs, hr, hsp, if_neg hp, hn, hlen, ev]
      refine ⟨?_, ?_⟩
      · simp only [dirOk, dirQ, hs, hr, hsp, if_neg hp, he, hn, List.drop_length, if_true, Bool.true_and, decide_true, Bool.and_true, Bool.not_eq_true', decide_eq_false_iff_not]
        exact hpos
      · simp only [dirS, hn, htk, hl, dirV, hs, hr, hsp, if_neg hp, if_true]
        rw [ev, List.take_length]
    · have hsp : spanL tcharB (quoteS v) = 0 := by rw [ev]; exact span_zero (by decide)
      have hqt : qTop (quoteS v ++ []) = some (v, (escS v).length + 2) := by rw [ev]; exact qTop_esc [] hval
      rw [List.append_nil] at hqt
      obtain ⟨q1, q2, q3⟩ := q_some hqt
      have he : dirEnd (n ++ 61 :: quoteS v) = (n ++ 61 :: quoteS v).length := by
        unfold dirEnd; rw [if_pos hs, hr, hsp, if_pos rfl, hn, hlen, q3, ev]; simp
      refine ⟨?_, ?_⟩
      · simp only [dirOk, dirQ, hs, hr, hsp, he, hn, q2, List.drop_length, if_true, Bool.true_and, decide_true, Bool.and_true, Bool.not_eq_true', decide_eq_false_iff_not]
        exact hpos
      · simp only [dirS, hn, htk, hl, dirV, hs, hr, hsp, q1, if_true]
/-! no comma of a directive's text is open -/
theorem see_tchar {c : UInt8} (h : tcharB c = true ∨ c = 61) : scan0.see c = scan0 ∧ c ≠ 44 := by
  have h34 : c ≠ 34 := by rintro rfl; rcases h with h | h; exact absurd h (by decide); exact absurd h (by decide)
  have h40 : c ≠ 40 := by rintro rfl; rcases h with h | h; exact absurd h (by decide); exact absurd h (by decide)
  have h44 : c ≠ 44 := by rintro rfl; rcases h with h | h; exact absurd h (by decide); exact absurd h (by decide)
  exact ⟨see_top h34 h40, h44⟩
theorem atom_tchars : ∀ {s : List UInt8}, (∀ c ∈ s, tcharB c = true ∨ c = 61) → Atom s
  | [], _ => ⟨rfl, rfl⟩
  | c :: r, h => by
    obtain ⟨i1, i2⟩ := atom_tchars (s := r) (fun x hx => h x (List.mem_cons_of_mem _ hx))
    obtain ⟨h1, h2⟩ := see_tchar (h c (by simp))
    refine ⟨by rw [Scan.run_cons, h1, i1], ?_⟩
    simp only [noTop, h1, i2, decide_eq_false h2]; rfl
def scanQ : Scan := ⟨true, false, 0⟩
theorem run_esc : ∀ (s : List UInt8), scanQ.run (escS s) = scanQ ∧ noTop scanQ (escS s) = true
  | [] => ⟨rfl, rfl⟩
  | c :: r => by
    obtain ⟨i1, i2⟩ := run_esc r
    have e : escS (c :: r) = escB c ++ escS r := by simp [escS]
    have hb : scanQ.run (escB c) = scanQ ∧ noTop scanQ (escB c) = true := by
      unfold escB
      split
      · rename_i hc
        rcases hc with rfl | rfl <;> exact ⟨rfl, rfl⟩
      · rename_i hc
        have h34 : c ≠ 34 := fun h => hc (.inl h)
        have h92 : c ≠ 92 := fun h => hc (.inr h)
        refine ⟨?_, ?_⟩
        · simp [Scan.run, Scan.see, scanQ, h34, h92]
        · simp [noTop, scanQ, Scan.closed]
    rw [e]
    refine ⟨by rw [Scan.run_append, hb.1, i1], by rw [noTop_append, hb.1, hb.2, i2]; rfl⟩
theorem atom_append {a b : List UInt8} (ha : Atom a) (hb : Atom b) : Atom (a ++ b) := by
  obtain ⟨a1, a2⟩ := ha
  obtain ⟨b1, b2⟩ := hb
  exact ⟨by rw [Scan.run_append, a1, b1], by rw [noTop_append, a1, a2, b2]; rfl⟩
theorem atom_quote (v : List UInt8) : Atom (34 :: (escS v ++ [34])) := by
  obtain ⟨i1, i2⟩ := run_esc v
  have h34 : scan0.see 34 = scanQ := rfl
  have h : scanQ.see 34 = scan0 := rfl
  refine ⟨?_, ?_⟩
  · rw [Scan.run_cons, h34, Scan.run_append, i1]; exact h
  · simp only [noTop, h34]
    rw [noTop_append, i1, i2]; decide
theorem trim_ends {s : List UInt8} {a b : UInt8} {m : List UInt8} (h : s = a :: m) (ha : blankB a = false) (hb : s.getLast? = some b) (hbb : blankB b = false) : trimS s = s := by
  subst h
  obtain ⟨x, y, h1, h2, h3⟩ := trim_parts (a :: m)
  have hx : x = [] := by
    cases x with
    | nil => rfl
    | cons c r =>
      rw [List.cons_append] at h1
      injection h1 with e1 e2
      subst e1
      simp only [List.all_cons, ha, Bool.false_and] at h2
      cases h2
  have hy : y = [] := by
    rcases List.eq_nil_or_concat y with h | ⟨r, c, rfl⟩
    · exact h
    · rw [h1] at hb
      simp at hb
      subst hb
      simp [hbb] at h3
  rw [hx, hy, List.append_nil, List.nil_append] at h1
  exact h1.symm
theorem dirText_atom {d : Dir} (h : dirMay d = true) : Atom (dirText d) ∧ trimS (dirText d) = dirText d ∧ dirText d ≠ [] := by
  obtain ⟨n, v, b⟩ := d
  simp only [dirMay, Bool.and_eq_true] at h
  obtain ⟨ht, hq, _⟩ := h
  obtain ⟨c, t, e2, hc, hall⟩ := token_head ht
  have hn : Atom n := atom_tchars fun x hx => .inl (List.all_eq_true.1 hall x hx)
  have hlastn : ∃ z, n.getLast? = some z ∧ blankB z = false := by
    have hne : n ≠ [] := by rw [e2]; simp
    exact ⟨n.getLast hne, List.getLast?_eq_some_getLast hne, tchar_noblank _ (List.all_eq_true.1 hall _ (List.getLast_mem hne))⟩
  cases b with
  | false =>
    have e : dirText (n, v, false) = n := rfl
    obtain ⟨z, hz1, hz2⟩ := hlastn
    rw [e]
    exact ⟨hn, trim_ends e2 (tchar_noblank c hc) hz1 hz2, by rw [e2]; simp⟩
  | true =>
    have e : dirText (n, v, true) = n ++ 61 :: quoteS v := rfl
    have h61 : Atom [61] := atom_tchars fun x hx => .inr (by simpa using hx)
    have hqa : Atom (quoteS v) ∧ ∃ z, (quoteS v).getLast? = some z ∧ blankB z = false := by
      rcases quoteOk_cases hq with ⟨htv, ev⟩ | ⟨htv, hval, ev⟩
      · rw [ev]
        obtain ⟨c', t', e2', hc', hall'⟩ := token_head htv
        have hne : v ≠ [] := by rw [e2']; simp
        exact ⟨atom_tchars fun x hx => .inl (List.all_eq_true.1 hall' x hx), v.getLast hne, List.getLast?_eq_some_getLast hne, tchar_noblank _ (List.all_eq_true.1 hall' _ (List.getLast_mem hne))⟩
      · rw [ev]
        refine ⟨atom_quote v, 34, ?_, by decide⟩
        rw [← List.cons_append, List.getLast?_append]; rfl
    obtain ⟨hqa, z, hz1, hz2⟩ := hqa
    rw [e]
    refine ⟨?_, ?_, by simp⟩
    · have := atom_append hn (atom_append h61 hqa)
      exact this
    · refine trim_ends (a := c) (m := t ++ 61 :: quoteS v) (b := z) (by rw [e2]; rfl) (tchar_noblank c hc) ?_ hz2
      rw [List.getLast?_append, List.getLast?_cons, hz1]; rfl
theorem dirs_back {s : List UInt8} (h : dirsOk s = true) : dirsMay (dirsS s) = true ∧ dirsOk (dirsText (dirsS s)) = true ∧ dirsS (dirsText (dirsS s)) = dirsS s ∧ splitS (dirsText (dirsS s)) = (dirsS s).map dirText := by
  have hm : ∀ d ∈ dirsS s, dirMay d = true ∧ lowerS d.1 = d.1 ∧ (d.2.2 = false → d.2.1 = []) := by
    intro d hd
    obtain ⟨e, he, ho, rfl⟩ := dirsS_mem hd
    obtain ⟨h1, h2⟩ := dir_may ho
    refine ⟨h1, h2, fun h => ?_⟩
    have : dirSet e = false := h
    simp [dirS, dirV, this]
  generalize dirsS s = l at *
  have hmay : dirsMay l = true := by
    rw [dirsMay, List.all_eq_true]; exact fun d hd => (hm d hd).1
  have ht : dirsText l = joinS (l.map dirText) := by unfold dirsText; rw [if_pos hmay]
  have hat : ∀ e ∈ l.map dirText, Atom e ∧ trimS e = e ∧ e ≠ [] := by
    intro e he
    obtain ⟨d, hd, rfl⟩ := List.mem_map.1 he
    exact dirText_atom (hm d hd).1
  obtain ⟨j1, j2⟩ := split_join hat
  have hend : endsS (joinS (l.map dirText)) = true := by unfold endsS; rw [j1]; rfl
  have hsp : splitS (joinS (l.map dirText)) = l.map dirText := by
    generalize joinS (l.map dirText) = j at *
    unfold splitS; rw [if_pos hend]; exact j2
  have hok : dirsOk (joinS (l.map dirText)) = true := by
    rw [dirsOk, hend, hsp, Bool.true_and, List.all_eq_true]
    intro e he
    obtain ⟨d, hd, rfl⟩ := List.mem_map.1 he
    obtain ⟨h1, h2, h3⟩ := hm d hd
    exact (dir_text h1 h2 h3).1
  refine ⟨hmay, by rw [ht]; exact hok, ?_, by rw [ht]; exact hsp⟩
  rw [ht, dirsS, if_pos hok, hsp, List.map_map]
  conv => rhs; rw [← List.map_id l]
  apply List.map_congr_left
  intro d hd
  obtain ⟨h1, h2, h3⟩ := hm d hd
  exact (dir_text h1 h2 h3).2
theorem dirs_bad {s : List UInt8} (h : dirsOk s = false) : dirsS s = [] := by simp [dirsS, h]
theorem dirsS_len {s : List UInt8} {d : Dir} (h : d ∈ dirsS s) : d.1.length ≤ s.length ∧ d.2.1.length ≤ s.length := by
  obtain ⟨e, he, _, rfl⟩ := dirsS_mem h
  have h1 := dirS_len (s := e)
  have h2 := (splitS_mem he).1
  omega
theorem dirsText_len {l : List Dir} {m : Nat} (h : ∀ d ∈ l, d.1.length ≤ m ∧ d.2.1.length ≤ m) : (dirsText l).length ≤ l.length * (3 * m + 5) := by
  unfold dirsText
  split
  · have := joinS_len (l := l.map dirText) (m := 3 * m + 3) (fun e he => by
      obtain ⟨d, hd, rfl⟩ := List.mem_map.1 he
      have h1 := dirText_len d
      have h2 := h d hd
      omega)
    rw [List.length_map] at this
    exact this
  · simp
end Go.Mdl
