/- httpdate: what is computed. No condition. -/
import Derived.Test.YtnfidlgiaaeleaaDigM
import Derived.Test.YtnfidlgiaaeleaaLibM
import Derived.Test.YtnfidlgiaaeleaaSlcM
set_option linter.unusedVariables false
set_option linter.unusedSimpArgs false
namespace Go.Mdl
open Go Go.Abs

def hdDays : List (List UInt8) := [[83, 117, 110, 100, 97, 121], [77, 111, 110, 100, 97, 121], [84, 117, 101, 115, 100, 97, 121], [87, 101, 100, 110, 101, 115, 100, 97, 121], [84, 104, 117, 114, 115, 100, 97, 121], [70, 114, 105, 100, 97, 121], [83, 97, 116, 117, 114, 100, 97, 121]]
def hdDays3 : List (List UInt8) := [[83, 117, 110], [77, 111, 110], [84, 117, 101], [87, 101, 100], [84, 104, 117], [70, 114, 105], [83, 97, 116]]
def hdMonths : List (List UInt8) := [[74, 97, 110], [70, 101, 98], [77, 97, 114], [65, 112, 114], [77, 97, 121], [74, 117, 110], [74, 117, 108], [65, 117, 103], [83, 101, 112], [79, 99, 116], [78, 111, 118], [68, 101, 99]]

/-- A reader of dates. -/
structure Rd where
  s : List UInt8
  y : Int
  mo : Int
  d : Int
  h : Int
  mi : Int
  se : Int
  week : Int
  two : Bool
  bad : Bool
def enc_rd (p : Rd) : AV := .agg [.str p.s, .int .i64 p.y, .int .i64 p.mo, .int .i64 p.d, .int .i64 p.h, .int .i64 p.mi, .int .i64 p.se, .int .i64 p.week, .bool p.two, .bool p.bad]
def rz : AV := .agg [.str [], .int .i64 0, .int .i64 0, .int .i64 0, .int .i64 0, .int .i64 0, .int .i64 0, .int .i64 0, .bool false, .bool false]
theorem rd_eta (p : Rd) : Rd.mk p.s p.y p.mo p.d p.h p.mi p.se p.week p.two p.bad = p := rfl
def rd0 (s : List UInt8) : Rd := ⟨s, 0, 0, 0, 0, 0, 0, 0, false, false⟩
def wHit (l : List (List UInt8)) (s : List UInt8) : Bool := l.any fun w => Lib.hasPrefix s w
def wIx (l : List (List UInt8)) (s : List UInt8) : Nat := l.findIdx fun w => Lib.hasPrefix s w
/-- One of some words taken: what is left, whether there was none, which. -/
def wdS (l : List (List UInt8)) (s : List UInt8) : List UInt8 := if wHit l s = true then s.drop (l.getD (wIx l s) []).length else s
def wdB (l : List (List UInt8)) (s : List UInt8) : Bool := !wHit l s
def wdN (l : List (List UInt8)) (s : List UInt8) : Int := if wHit l s = true then (wIx l s : Int) else 0
/-- So many digits taken. -/
def nmS (w : Nat) (s : List UInt8) : List UInt8 := if s.length < w then s else s.drop w
def nmB (w : Nat) (s : List UInt8) : Bool := decide (s.length < w) || !decide (numErr 10 9999 (s.take w) = 0)
def nmN (w : Nat) (s : List UInt8) : Int := if s.length < w then 0 else numVal 10 9999 (s.take w)
def blS (s : List UInt8) : List UInt8 := if Lib.hasPrefix s [32] = true then s.drop 1 else s
def blW (s : List UInt8) : Nat := if Lib.hasPrefix s [32] = true then 1 else 2
def Rd.word (p : Rd) (l : List (List UInt8)) : Rd := { p with s := wdS l p.s, bad := p.bad || wdB l p.s }
def Rd.num (p : Rd) (w : Nat) : Rd := { p with s := nmS w p.s, bad := p.bad || nmB w p.s }
/-- What a letter of a pattern takes. -/
def partS (c : UInt8) (p : Rd) : Rd :=
  if c = 119 then { p.word hdDays3 with week := wdN hdDays3 p.s }
  else if c = 87 then { p.word hdDays with week := wdN hdDays p.s }
  else if c = 100 then { p.num 2 with d := nmN 2 p.s }
  else if c = 98 then { p with s := nmS (blW p.s) (blS p.s), bad := p.bad || nmB (blW p.s) (blS p.s), d := nmN (blW p.s) (blS p.s) }
  else if c = 109 then { p.word hdMonths with mo := wdN hdMonths p.s + 1 }
  else if c = 121 then { p.num 4 with y := nmN 4 p.s }
  else if c = 107 then { p.num 2 with y := nmN 2 p.s, two := true }
  else if c = 116 then
    let s1 := nmS 2 p.s
    let s2 := wdS [[58]] s1
    let s3 := nmS 2 s2
    let s4 := wdS [[58]] s3
    { p with s := nmS 2 s4, h := nmN 2 p.s, mi := nmN 2 s2, se := nmN 2 s4, bad := p.bad || nmB 2 p.s || wdB [[58]] s1 || nmB 2 s2 || wdB [[58]] s3 || nmB 2 s4 }
  else if c = 122 then p.word [[71, 77, 84]]
  else p.word [[c]]
def runS (pat : List UInt8) (p : Rd) : Rd := pat.foldl (fun p c => partS c p) p
def wholeS (s pat : List UInt8) : Rd := { runS pat (rd0 s) with bad := (runS pat (rd0 s)).bad || !decide ((runS pat (rd0 s)).s = []) }
def hdPat1 : List UInt8 := [119, 44, 32, 100, 32, 109, 32, 121, 32, 116, 32, 122]
def hdPat2 : List UInt8 := [87, 44, 32, 100, 45, 109, 45, 107, 32, 116, 32, 122]
def hdPat3 : List UInt8 := [119, 32, 109, 32, 98, 32, 116, 32, 121]
def nearI (two year : Int) : Int := year + 50 - ((year + 50 - two).tmod 100 + 100).tmod 100

theorem word_hit {l : List (List UInt8)} {s : List UInt8} {k : Nat} (hk : k < l.length) (hn : (l.take k).any (fun w => Lib.hasPrefix s w) = false) (h : Lib.hasPrefix s (l.getD k []) = true) : wHit l s = true ∧ wIx l s = k := by
  have hit := idxP_hit (p := fun w => Lib.hasPrefix s w) (l := l) [] hk hn h
  have hany : l.any (fun w => Lib.hasPrefix s w) = true := by rw [← idxP_ge, hit]; omega
  refine ⟨hany, ?_⟩
  unfold idxP at hit
  rw [if_pos hany] at hit
  unfold wIx; omega
theorem prefix_len {s w : List UInt8} (h : Lib.hasPrefix s w = true) : w.length ≤ s.length := by
  have := List.isPrefixOf_iff_prefix.1 (show w.isPrefixOf s = true from h)
  exact this.length_le
theorem wdS_len (l : List (List UInt8)) (s : List UInt8) : (wdS l s).length ≤ s.length := by
  unfold wdS; split <;> simp
theorem nmS_len (w : Nat) (s : List UInt8) : (nmS w s).length ≤ s.length := by
  unfold nmS; split <;> simp
theorem blS_len (s : List UInt8) : (blS s).length ≤ s.length := by
  unfold blS; split <;> simp
theorem wdN_range (l : List (List UInt8)) (s : List UInt8) : 0 ≤ wdN l s ∧ wdN l s ≤ l.length := by
  unfold wdN
  split
  · have : wIx l s ≤ l.length := List.findIdx_le_length
    omega
  · omega
theorem partS_len (c : UInt8) (p : Rd) : (partS c p).s.length ≤ p.s.length := by
  unfold partS
  have h1 := nmS_len 2 p.s
  have h2 := wdS_len [[58]] (nmS 2 p.s)
  have h3 := nmS_len 2 (wdS [[58]] (nmS 2 p.s))
  have h4 := wdS_len [[58]] (nmS 2 (wdS [[58]] (nmS 2 p.s)))
  have h5 := nmS_len 2 (wdS [[58]] (nmS 2 (wdS [[58]] (nmS 2 p.s))))
  have h6 := nmS_len (blW p.s) (blS p.s)
  have h7 := blS_len p.s
  have h8 := nmS_len 4 p.s
  (repeat' split) <;> simp only [Rd.word, Rd.num] <;> first | exact wdS_len _ _ | omega
end Go.Mdl
