/- httpdate: what the document's answer computes as a whole, and that dates come back. No condition. -/
import Derived.Test.YtnfidlgiaaeleaaHdtF
import Derived.Test.YtnfidlgiaaeleaaHdtB
set_option linter.unusedVariables false
set_option linter.unusedSimpArgs false
namespace Go.Proofs.Try.Hdt
open Go Go.Abs Go.Proofs Go.Mdl Go.Proofs.Try.Civil

def fmOk (f : Fm) : Bool := secOk f.d.y f.d.mo f.d.d f.d.h f.d.mi f.d.se && decide (weekday (dayAns f.d.y f.d.mo f.d.d) = f.week)
def fmAns (f : Fm) (form : Int) : Int × Int × Int := if fmOk f = true then (secNo f.d.y f.d.mo f.d.d f.d.h f.d.mi f.d.se, form, 0) else (0, 0, 16)
def refGo (s : List UInt8) (ty : Int) : Int × Int × Int :=
  if (form1 s).ok = true then fmAns (form1 s) 1 else if (form2 ty s).ok = true then fmAns (form2 ty s) 2 else if (form3 s).ok = true then fmAns (form3 s) 3 else (0, 0, 3)
theorem fin_case {now : Int} {p : Rd} {f : Fm} {form : Int} (h : f = ⟨⟨yearOf now p, p.mo, p.d, p.h, p.mi, p.se⟩, p.week, true⟩) : (if finOk now p = true then (finN now p, form, (0 : Int)) else (0, 0, 16)) = fmAns f form := by
  subst h
  have e : fmOk ⟨⟨yearOf now p, p.mo, p.d, p.h, p.mi, p.se⟩, p.week, true⟩ = finOk now p := rfl
  unfold fmAns
  rw [e]
  by_cases hf : finOk now p = true
  · rw [if_pos hf, if_pos hf, finN, if_pos hf]
  · rw [if_neg hf, if_neg hf]
theorem parse_ref (s : List UInt8) (now : Int) : hdParse s now = if inDays (dQ now) = true then refGo s (aY (dQ now)) else (0, 0, 1) := by
  unfold hdParse
  by_cases hi : inDays (dQ now) = true
  rotate_left
  · rw [if_neg hi, if_neg hi]
  rw [if_pos hi, if_pos hi, refGo]
  obtain ⟨f1, g1⟩ := form1_ok s
  obtain ⟨f2, g2⟩ := form2_ok (aY (dQ now)) s
  obtain ⟨f3, g3⟩ := form3_ok s
  simp only [hdPats, hdGo]
  rcases whole1 s with ⟨c1, e1⟩ | ⟨c1, e1⟩
  · rw [if_neg (by rw [e1]; simp [v1]), if_pos (f1.2 c1), e1]
    exact fin_case (form := 1) (by rw [g1 c1]; rfl)
  rw [if_pos e1, if_neg (fun h => c1 (f1.1 h))]
  rcases whole2 s with ⟨c2, e2⟩ | ⟨c2, e2⟩
  · rw [if_neg (by rw [e2]; simp [v2]), if_pos (f2.2 c2), e2]
    exact fin_case (form := 2) (by rw [g2 c2]; rfl)
  rw [if_pos e2, if_neg (fun h => c2 (f2.1 h))]
  rcases whole3 s with ⟨c3, e3⟩ | ⟨c3, e3⟩
  · rw [if_neg (by rw [e3]; simp [v3]), if_pos (f3.2 c3), e3]
    exact fin_case (form := 3) (by rw [g3 c3]; rfl)
  rw [if_pos e3, if_neg (fun h => c3 (f3.1 h))]

/-! ### Print, Fix -/
def dtQ (t : Int) : Dt := ⟨aY (dQ t), aM (dQ t), aD (dQ t), dIn t (dR t / 3600), dIn t (dR t / 60 % 60), dIn t (dR t % 60)⟩
def wdD (d : Dt) : Int := weekday (dayAns d.y d.mo d.d)
def printH (t : Int) : List UInt8 := if inDays (dQ t) = true then writeS (dtQ t) (wdD (dtQ t)) 1 else []
def fixH (s : List UInt8) (now : Int) : List UInt8 := if (hdParse s now).2.2 = 0 then printH (hdParse s now).1 else s

theorem week_range (n : Int) : 0 ≤ weekday n ∧ weekday n < 7 := by unfold weekday; omega
theorem dtQ_in {t : Int} (h : inDays (dQ t) = true) : dtIn (dtQ t) (wdD (dtQ t)) := by
  obtain ⟨h1, h2⟩ := sec_back h
  rw [secOk_iff] at h2
  obtain ⟨hr, hh, hm, hs⟩ := h2
  have := right_bounds hr
  have w := week_range (dayAns (aY (dQ t)) (aM (dQ t)) (aD (dQ t)))
  exact ⟨w, ⟨this.1, this.2.1⟩, ⟨this.2.2.1, this.2.2.2.1⟩, ⟨this.2.2.2.2.1, this.2.2.2.2.2⟩, hh, hm, hs⟩
theorem fin_back {now t : Int} {p : Rd} (h : inDays (dQ t) = true) (hy : yearOf now p = (dtQ t).y) (hmo : p.mo = (dtQ t).mo) (hd : p.d = (dtQ t).d) (hh : p.h = (dtQ t).h) (hmi : p.mi = (dtQ t).mi) (hse : p.se = (dtQ t).se) (hw : p.week = wdD (dtQ t)) :
    finOk now p = true ∧ finN now p = t := by
  obtain ⟨h1, h2⟩ := sec_back h
  have e : finOk now p = true := by
    unfold finOk
    rw [hy, hmo, hd, hh, hmi, hse, hw]
    simp only [Bool.and_eq_true, decide_eq_true_eq]
    exact ⟨h2, rfl⟩
  refine ⟨e, ?_⟩
  rw [finN, if_pos e, hy, hmo, hd, hh, hmi, hse]
  exact h1
theorem parse_back1 {t now : Int} (h : inDays (dQ t) = true) (hn : inDays (dQ now) = true) : hdParse (writeS (dtQ t) (wdD (dtQ t)) 1) now = (t, 1, 0) := by
  obtain ⟨c1, e1⟩ := back1 (dtQ_in h)
  rcases whole1 (writeS (dtQ t) (wdD (dtQ t)) 1) with ⟨_, e⟩ | ⟨hc, _⟩
  rotate_left
  · exact absurd c1 hc
  rw [e1] at e
  rw [hdParse, if_pos hn]
  simp only [hdPats, hdGo]
  have hb := fin_back (now := now) (p := (wholeS (writeS (dtQ t) (wdD (dtQ t)) 1) hdPat1)) h (by rw [e]; rfl) (by rw [e]) (by rw [e]) (by rw [e]) (by rw [e]) (by rw [e]) (by rw [e])
  rw [if_neg (by rw [e]; simp), if_pos hb.1, hb.2]; rfl
theorem parse_back2 {t now : Int} (h : inDays (dQ t) = true) (hn : inDays (dQ now) = true) (h1 : aY (dQ now) - 50 < aY (dQ t)) (h2 : aY (dQ t) ≤ aY (dQ now) + 50) : hdParse (writeS (dtQ t) (wdD (dtQ t)) 2) now = (t, 2, 0) := by
  obtain ⟨c0, c1, e1⟩ := back2 (dtQ_in h)
  rcases whole1 (writeS (dtQ t) (wdD (dtQ t)) 2) with ⟨hc, _⟩ | ⟨_, b1⟩
  · exact absurd hc c0
  rcases whole2 (writeS (dtQ t) (wdD (dtQ t)) 2) with ⟨_, e⟩ | ⟨hc, _⟩
  rotate_left
  · exact absurd c1 hc
  rw [e1] at e
  rw [hdParse, if_pos hn]
  simp only [hdPats, hdGo]
  have hy := (dtQ_in h).2.1.1
  have hb := fin_back (now := now) (p := (wholeS (writeS (dtQ t) (wdD (dtQ t)) 2) hdPat2)) h (by rw [e]; exact near_back hy h1 h2) (by rw [e]) (by rw [e]) (by rw [e]) (by rw [e]) (by rw [e]) (by rw [e])
  rw [if_pos b1, if_neg (by rw [e]; simp), if_pos hb.1, hb.2]; rfl
theorem parse_back3 {t now : Int} (h : inDays (dQ t) = true) (hn : inDays (dQ now) = true) : hdParse (writeS (dtQ t) (wdD (dtQ t)) 3) now = (t, 3, 0) := by
  obtain ⟨c0, c0', c1, e1⟩ := back3 (dtQ_in h)
  rcases whole1 (writeS (dtQ t) (wdD (dtQ t)) 3) with ⟨hc, _⟩ | ⟨_, b1⟩
  · exact absurd hc c0
  rcases whole2 (writeS (dtQ t) (wdD (dtQ t)) 3) with ⟨hc, _⟩ | ⟨_, b2⟩
  · exact absurd hc c0'
  rcases whole3 (writeS (dtQ t) (wdD (dtQ t)) 3) with ⟨_, e⟩ | ⟨hc, _⟩
  rotate_left
  · exact absurd c1 hc
  rw [e1] at e
  rw [hdParse, if_pos hn]
  simp only [hdPats, hdGo]
  have hb := fin_back (now := now) (p := (wholeS (writeS (dtQ t) (wdD (dtQ t)) 3) hdPat3)) h (by rw [e]; rfl) (by rw [e]) (by rw [e]) (by rw [e]) (by rw [e]) (by rw [e]) (by rw [e])
  rw [if_pos b1, if_pos b2, if_neg (by rw [e]; simp), if_pos hb.1, hb.2]; rfl
theorem fix_back {s : List UInt8} {t now form : Int} (h : inDays (dQ t) = true) (hn : inDays (dQ now) = true) (hp : hdParse s now = (t, form, 0)) : fixH s now = printH t ∧ fixH (printH t) now = printH t := by
  have e1 : fixH s now = printH t := by rw [fixH, hp, if_pos rfl]
  refine ⟨e1, ?_⟩
  have e2 : printH t = writeS (dtQ t) (wdD (dtQ t)) 1 := by rw [printH, if_pos h]
  have e3 := parse_back1 h hn
  rw [e2, fixH, e3, if_pos rfl, e2]
theorem parse_range (s : List UInt8) (now : Int) : -9223372036854775808 ≤ (hdParse s now).1 ∧ (hdParse s now).1 ≤ 9223372036854775807 := by
  rw [parse_ref]
  have key : ∀ f form, -9223372036854775808 ≤ (fmAns f form).1 ∧ (fmAns f form).1 ≤ 9223372036854775807 := by
    intro f form
    unfold fmAns
    split
    · rename_i h
      unfold fmOk at h
      simp only [Bool.and_eq_true, decide_eq_true_eq] at h
      obtain ⟨h1, -⟩ := h
      simp only [secNo, if_pos h1]
      rw [secOk_iff] at h1
      have := dayNo_bounds h1.1
      omega
    · simp
  unfold refGo
  (repeat' split) <;> first | exact key _ _ | simp
end Go.Proofs.Try.Hdt
