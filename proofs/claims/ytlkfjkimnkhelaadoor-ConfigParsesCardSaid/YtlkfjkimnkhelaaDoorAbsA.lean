/- Abstract values, and how they stand for the values of a world. No condition. -/
import Derived.Calls
import Derived.RangeFuncRecord
import Derived.RangeFuncCalls
import Derived.TacticsIn
import Derived.OrdersIn
import Derived.Laws.Externs
import Derived.Below
import Derived.Orders
import Derived.Laws.Rows
import Derived.Laws.Sem
import Derived.Laws.World
import Derived.Laws.Cells
import Derived.Laws.Strings
import Derived.Laws.AppendOwn
import Derived.Laws.MakeOwn
import Derived.Laws.Slices
import Derived.Laws.BytesString
import GoSem.ClaimData
set_option linter.unusedVariables false
set_option linter.unusedSimpArgs false
namespace Go.Abs

/-- Abstract values. -/
inductive AV where
  | any
  | bool (b : Bool)
  | int (k : IntKind) (n : Int)
  | str (s : List UInt8)
  | agg (cs : List AV)
  | tuple (vs : List AV)
  | list (sz : Nat) (l : List AV)
  | own (sz : Nat) (l : List AV)
  | radr (cs : List AV)
  | nils
  | nil0
  | nilp
  | nili
  | nilf
  | yld (id : Nat)
  | ref (id off len hw : Nat)
  | ptr (id i j hw : Nat)
  | it (id : Nat)
  | nxt (more : Bool) (pos rune : Int)
  | clo (f : FuncId) (k : Nat) (caps : List AV)
  | cond (e : Bool) (v : AV)

def AV.cells : AV → List AV
  | .agg cs => cs
  | v => [v]

/-- What the record of a loop over a function bears from the code: the parameters of its rounds, the assignments, the body, how many slots. -/
structure LoopC where
  ps : Array Tmp
  assign : Code
  body : Code
  n : Nat

inductive Blk where
  | cells (sz : Nat) (ro : Bool) (d : AV) (c : List AV)
  | iter (s : List UInt8) (pos : Nat)
  | loop (lc : LoopC) (st : LoopState) (pd : Option Code) (sl : List (Nat × AV))
  | defer

def lkA : List (Nat × AV) → Nat → AV
  | [], _ => .any
  | (k, v) :: r, t => if k = t then v else lkA r t

/-- The values that hang on no block of the call's own. -/
inductive Rp (w : World) (ok : Nat → Nat → Prop) : AV → Value → Prop
  | any (v : Value) : Rp w ok .any v
  | bool (b : Bool) : Rp w ok (.bool b) (.bool b)
  | int (k : IntKind) (n : Int) : Rp w ok (.int k n) (.int k n)
  | str (s : List UInt8) : Rp w ok (.str s) (.string ⟨s.toArray⟩)
  | agg (cs : List AV) (vs : List Value) (hl : vs.length = cs.length) (h1 : ∀ (i : Nat) (v : Value), vs[i]? = some v → v.oneCell' = true)
      (h : ∀ (i : Nat) (a : AV) (v : Value), cs[i]? = some a → vs[i]? = some v → Rp w ok a v) : Rp w ok (.agg cs) (.agg vs.toArray)
  | tuple (cs : List AV) (vs : List Value) (hl : vs.length = cs.length)
      (h : ∀ (i : Nat) (a : AV) (v : Value), cs[i]? = some a → vs[i]? = some v → Rp w ok a v) : Rp w ok (.tuple cs) (.tuple vs.toArray)
  | list0 (sz : Nat) (a : Option Addr) (cap : Nat) (hm : cap ≤ maxLen) : Rp w ok (.list sz []) (.slice a 0 cap)
  | list (sz : Nat) (l : List AV) (b off cap : Nat) (cv : Nat → Nat → Value) (hcap : l.length ≤ cap) (hm : cap ≤ maxLen)
      (hsz : ∀ (i : Nat) (x : AV), l[i]? = some x → x.cells.length = sz)
      (h1 : ∀ (i : Nat) (x : AV) (j : Nat) (y : AV), l[i]? = some x → x.cells[j]? = some y →
        ok b (off + i * sz + j) ∧ w.cell? ⟨b, off + i * sz + j, none⟩ = some (cv i j) ∧ (cv i j).oneCell' = true)
      (h : ∀ (i : Nat) (x : AV) (j : Nat) (y : AV), l[i]? = some x → x.cells[j]? = some y → Rp w ok y (cv i j)) : Rp w ok (.list sz l) (.slice (some ⟨b, off, none⟩) l.length cap)
  | own (sz : Nat) (l : List AV) (b : Bool) (h : b = true → l = []) : Rp w ok (.own sz l) (.bool b)
  | radr (cs : List AV) (b off : Nat) (cv : Nat → Value)
      (h1 : ∀ (j : Nat) (y : AV), cs[j]? = some y → ok b (off + j) ∧ w.cell? ⟨b, off + j, none⟩ = some (cv j) ∧ (cv j).oneCell' = true)
      (h : ∀ (j : Nat) (y : AV), cs[j]? = some y → Rp w ok y (cv j)) : Rp w ok (.radr cs) (.pointer (some ⟨b, off, none⟩))
  | nils : Rp w ok .nils (.slice none 0 0)
  | nil0 (a : Option Addr) : Rp w ok .nil0 (.slice a 0 0)
  | nilp : Rp w ok .nilp (.pointer none)
  | nili : Rp w ok .nili .nilIface
  | nilf : Rp w ok .nilf .nilFunc
  | nxtT (p r : Int) : Rp w ok (.nxt true p r) (.tuple #[.bool true, .int .i64 p, .int .i32 r])
  | nxtF (p r : Int) : Rp w ok (.nxt false p r) (.tuple #[.bool false])
  | clo (f : FuncId) (k : Nat) (cs : List AV) (vs : List Value) (hl : vs.length = cs.length)
      (h : ∀ (i : Nat) (a : AV) (v : Value), cs[i]? = some a → vs[i]? = some v → Rp w ok a v) : Rp w ok (.clo f k cs) (.func (.func f) (vs.take k).toArray (vs.drop k).toArray)
  | condT (a : AV) (v : Value) (h : Rp w ok a v) : Rp w ok (.cond true a) v
  | condF (a : AV) : Rp w ok (.cond false a) undef

theorem Rp.mono {w w' : World} {ok ok' : Nat → Nat → Prop} {a : AV} {v : Value} (h : Rp w ok a v) (hok : ∀ b o, ok b o → ok' b o)
    (hc : ∀ b o, ok b o → w'.cell? ⟨b, o, none⟩ = w.cell? ⟨b, o, none⟩) : Rp w' ok' a v := by
  induction h with
  | any v => exact .any v
  | bool b => exact .bool b
  | int k n => exact .int k n
  | str s => exact .str s
  | agg cs vs hl h1 h ih => exact .agg cs vs hl h1 ih
  | tuple cs vs hl h ih => exact .tuple cs vs hl ih
  | list0 sz a cap hm => exact .list0 sz a cap hm
  | list sz l b off cap cv hcap hm hsz h1 h ih =>
    exact .list sz l b off cap cv hcap hm hsz (fun i x j y hi hj => by
      obtain ⟨a1, a2, a3⟩ := h1 i x j y hi hj
      exact ⟨hok _ _ a1, by rw [hc _ _ a1]; exact a2, a3⟩) ih
  | own sz l b h => exact .own sz l b h
  | radr cs b off cv h1 h ih =>
    exact .radr cs b off cv (fun j y hj => by
      obtain ⟨a1, a2, a3⟩ := h1 j y hj
      exact ⟨hok _ _ a1, by rw [hc _ _ a1]; exact a2, a3⟩) ih
  | nils => exact .nils
  | nil0 a => exact .nil0 a
  | nilp => exact .nilp
  | nili => exact .nili
  | nilf => exact .nilf
  | nxtT p r => exact .nxtT p r
  | nxtF p r => exact .nxtF p r
  | clo f k cs vs hl h ih => exact .clo f k cs vs hl ih
  | condT a v h ih => exact .condT a v ih
  | condF a => exact .condF a

/-- A block of cells that has room for n. -/
def CapOK (w : World) (b n : Nat) : Prop := ∃ cur e fz, w.heap[b]? = some (.cells cur e fz) ∧ n ≤ cur.size

def RefV (w : World) (φ : Nat → Option Nat) (sz id off len hw : Nat) (v : Value) : Prop :=
  off + len ≤ hw ∧ ((hw = 0 ∧ ∃ a, v = .slice a 0 0) ∨
    ∃ b cap a, φ id = some b ∧ v = .slice (some a) len cap ∧ len ≤ cap ∧ cap ≤ maxLen ∧
      (cap = 0 ∨ (a = ⟨b, off * sz, none⟩ ∧ CapOK w b ((off + cap) * sz))))

inductive R (w : World) (ok : Nat → Nat → Prop) (L : Nat → Option Blk) (φ : Nat → Option Nat) : AV → Value → Prop
  | pure (a : AV) (v : Value) (h : Rp w ok a v) : R w ok L φ a v
  | ref (id off len hw : Nat) (va : Option Addr) (vn vc : Nat) (sz : Nat) (ro : Bool) (d : AV) (c : List AV) (hL : L id = some (.cells sz ro d c)) (hle : hw ≤ c.length)
      (h : hw = c.length → RefV w φ sz id off len hw (.slice va vn vc)) : R w ok L φ (.ref id off len hw) (.slice va vn vc)
  | ptr (id i j hw : Nat) (pa : Addr) (sz : Nat) (ro : Bool) (d : AV) (c : List AV) (hL : L id = some (.cells sz ro d c)) (hle : hw ≤ c.length)
      (h : hw = c.length → ∃ b, φ id = some b ∧ pa = ⟨b, i * sz + j, none⟩) : R w ok L φ (.ptr id i j hw) (.pointer (some pa))
  | it (id : Nat) (s : List UInt8) (pos b : Nat) (hL : L id = some (.iter s pos)) (hφ : φ id = some b) :
      R w ok L φ (.it id) (.pointer (some ⟨b, 0, none⟩))
  | yld (id : Nat) (lc : LoopC) (st : LoopState) (pd : Option Code) (sl : List (Nat × AV)) (b : Nat) (hL : L id = some (.loop lc st pd sl)) (hφ : φ id = some b) :
      R w ok L φ (.yld id) (.func (.yield b) #[] #[])
  | agg (cs : List AV) (vs : List Value) (hl : vs.length = cs.length) (h1 : ∀ (i : Nat) (v : Value), vs[i]? = some v → v.oneCell' = true)
      (h : ∀ (i : Nat) (a : AV) (v : Value), cs[i]? = some a → vs[i]? = some v → R w ok L φ a v) : R w ok L φ (.agg cs) (.agg vs.toArray)
  | tuple (cs : List AV) (vs : List Value) (hl : vs.length = cs.length)
      (h : ∀ (i : Nat) (a : AV) (v : Value), cs[i]? = some a → vs[i]? = some v → R w ok L φ a v) : R w ok L φ (.tuple cs) (.tuple vs.toArray)
  | clo (f : FuncId) (k : Nat) (cs : List AV) (vs : List Value) (hl : vs.length = cs.length)
      (h : ∀ (i : Nat) (a : AV) (v : Value), cs[i]? = some a → vs[i]? = some v → R w ok L φ a v) : R w ok L φ (.clo f k cs) (.func (.func f) (vs.take k).toArray (vs.drop k).toArray)
  | condT (a : AV) (v : Value) (h : R w ok L φ a v) : R w ok L φ (.cond true a) v

/-- Elements, and the cells that they take. -/
def RE (w : World) (ok : Nat → Nat → Prop) (L : Nat → Option Blk) (φ : Nat → Option Nat) (sz : Nat) (c : List AV) (vs : List Value) : Prop :=
  vs.length = c.length * sz ∧ (∀ (i : Nat) (x : AV), c[i]? = some x → x.cells.length = sz) ∧
    ∀ (i : Nat) (x : AV) (j : Nat) (y : AV), c[i]? = some x → x.cells[j]? = some y → ∃ v, vs[i * sz + j]? = some v ∧ v.oneCell' = true ∧ R w ok L φ y v

/-- A loop's record. -/
structure LoopOK (w : World) (ok : Nat → Nat → Prop) (L : Nat → Option Blk) (φ : Nat → Option Nat) (lc : LoopC) (st : LoopState) (pd : Option Code) (sl : List (Nat × AV)) (r : Loop) : Prop where
  state : r.state = st
  pending : r.pending = pd
  params : r.params = lc.ps
  assign : r.assign = lc.assign
  body : r.body = lc.body
  size : r.tmps.size = lc.n
  slots : ∀ t, R w ok L φ (lkA sl t) (r.tmps.getD t undef)

theorem LoopOK.keep {w ok L φ w' ok' L' φ' lc st pd sl r} (k : ∀ a v, R w ok L φ a v → R w' ok' L' φ' a v) (h : LoopOK w ok L φ lc st pd sl r) : LoopOK w' ok' L' φ' lc st pd sl r :=
  ⟨h.state, h.pending, h.params, h.assign, h.body, h.size, fun t => k _ _ (h.slots t)⟩

def Blk.isC : Blk → Bool
  | .cells .. => true
  | _ => false
/-- What a block that is no cells keeps for ever. -/
def Blk.same : Blk → Blk → Prop
  | .iter s _, .iter s' _ => s = s'
  | .loop lc _ _ _, .loop lc' _ _ _ => lc = lc'
  | .defer, .defer => True
  | _, _ => False
theorem Blk.same_refl {b : Blk} (h : b.isC = false) : b.same b := by cases b <;> simp_all [Blk.isC, Blk.same]
theorem Blk.same_trans {a b c : Blk} (h : a.same b) (k : b.same c) : a.same c := by
  cases a <;> cases b <;> simp only [Blk.same] at h <;> cases c <;> simp_all [Blk.same]
theorem Blk.same_notC {a b : Blk} (h : a.same b) : b.isC = false := by
  cases a <;> cases b <;> simp_all [Blk.same, Blk.isC]
theorem Blk.same_notC' {a b : Blk} (h : a.same b) : a.isC = false := by
  cases a <;> cases b <;> simp_all [Blk.same, Blk.isC]
/-- A block that is no cells, and what stands for it. -/
inductive ObjR (w : World) (ok : Nat → Nat → Prop) (L : Nat → Option Blk) (φ : Nat → Option Nat) : Blk → Obj → Prop
  | iter (s : List UInt8) (pos : Nat) : ObjR w ok L φ (.iter s pos) (.stringIter ⟨s.toArray⟩ pos)
  | loop (lc : LoopC) (st : LoopState) (pd : Option Code) (sl : List (Nat × AV)) (r : Loop) (h : LoopOK w ok L φ lc st pd sl r) : ObjR w ok L φ (.loop lc st pd sl) (.loop r)
  | defer : ObjR w ok L φ .defer (.deferred (some []))
theorem ObjR.keep {w ok L φ w' ok' L' φ' b o} (k : ∀ a v, R w ok L φ a v → R w' ok' L' φ' a v) (h : ObjR w ok L φ b o) : ObjR w' ok' L' φ' b o := by
  cases h with
  | iter s pos => exact .iter s pos
  | loop lc st pd sl r h => exact .loop lc st pd sl r (h.keep k)
  | defer => exact .defer
theorem ObjR.notCells {w ok L φ b o} (h : ObjR w ok L φ b o) {cs : Array Value} {e : TypeId} {fz : Nat × Nat} : o ≠ .cells cs e fz := by
  cases h <;> simp
theorem ObjR.notC {w ok L φ b o} (h : ObjR w ok L φ b o) : b.isC = false := by
  cases h <;> rfl

/-- The live blocks of the call. -/
structure HeapOK (w : World) (ok : Nat → Nat → Prop) (L : Nat → Option Blk) (φ : Nat → Option Nat) : Prop where
  blk : ∀ id sz ro d c, L id = some (.cells sz ro d c) → (φ id = none ∧ c = []) ∨
    ∃ b vs rest e lo hi, φ id = some b ∧ w.heap[b]? = some (.cells (vs ++ rest).toArray e (lo, hi)) ∧ (∀ o, o < (vs ++ rest).length → ¬ (lo ≤ o ∧ o < hi)) ∧
      RE w ok L φ sz c vs
  obj : ∀ id b, L id = some b → b.isC = false → ∃ k o, φ id = some k ∧ w.heap[k]? = some o ∧ ObjR w ok L φ b o
  dom : ∀ id, L id = none → φ id = none
  inj : ∀ i j b, φ i = some b → φ j = some b → i = j
  shut : ∀ b o, ok b o → b < w.heap.size ∧ ∀ id, φ id = some b → ∃ sz d c, L id = some (.cells sz true d c) ∧ o < c.length * sz

theorem HeapOK.iter {w ok L φ} (h : HeapOK w ok L φ) : ∀ id s pos, L id = some (.iter s pos) → ∃ b, φ id = some b ∧ w.heap[b]? = some (.stringIter ⟨s.toArray⟩ pos) := by
  intro id s pos hL
  obtain ⟨k, o, h1, h2, h3⟩ := h.obj id _ hL rfl
  cases h3
  exact ⟨k, h1, h2⟩

/-- What a call may turn: nothing that was there, but the blocks of X. -/
structure Fr (X : Nat → Prop) (w w' : World) : Prop where
  os : w'.os = w.os
  tape : w'.tape = w.tape
  output : w'.output = w.output
  size : w.heap.size ≤ w'.heap.size
  block : ∀ k, k < w.heap.size → ¬ X k → w'.heap[k]? = w.heap[k]?

theorem Fr.refl (X : Nat → Prop) (w : World) : Fr X w w := ⟨rfl, rfl, rfl, Nat.le_refl _, fun _ _ _ => rfl⟩
theorem Fr.trans {X Y : Nat → Prop} {a b c : World} (h : Fr X a b) (k : Fr Y b c) (hY : ∀ x, Y x → X x ∨ a.heap.size ≤ x) : Fr X a c :=
  ⟨k.os.trans h.os, k.tape.trans h.tape, k.output.trans h.output, Nat.le_trans h.size k.size, fun i hi hx =>
    (k.block i (Nat.lt_of_lt_of_le hi h.size) (fun hy => by rcases hY i hy with h1 | h1; exact hx h1; omega)).trans (h.block i hi hx)⟩

/-! ### The abstract state -/
structure St where
  tmps : List (Nat × AV)
  L : List (Nat × Blk)

def lkB : List (Nat × Blk) → Nat → Option Blk
  | [], _ => none
  | (k, v) :: r, t => if k = t then some v else lkB r t
def St.get (s : St) (t : Nat) : AV := lkA s.tmps t
def St.lk (s : St) (id : Nat) : Option Blk := lkB s.L id
def St.put (s : St) (t : Option Nat) (v : AV) : St := match t with | some t => ⟨(t, v) :: s.tmps, s.L⟩ | none => s
def St.upd (s : St) (u : List (Nat × Blk)) : St := ⟨s.tmps, u ++ s.L⟩

def AV.ofVal : Value → AV
  | .bool b => .bool b
  | .int k n => .int k n
  | .string s => .str s.data.toList
  | .slice none 0 0 => .nils
  | .pointer none => .nilp
  | .nilIface => .nili
  | .nilFunc => .nilf
  | _ => .any

def St.ev (s : St) : Operand → AV
  | .tmp t => s.get t
  | .const v => .ofVal v
  | .func f => .clo f 0 []
  | .global _ => .any

theorem Rp_ofVal (w : World) (ok : Nat → Nat → Prop) (v : Value) : Rp w ok (.ofVal v) v := by
  unfold AV.ofVal
  split
  · exact .bool _
  · exact .int _ _
  · rename_i s
    have := Rp.str (w := w) (ok := ok) s.data.toList
    simpa using this
  · exact .nils
  · exact .nilp
  · exact .nili
  · exact .nilf
  · exact .any _

/-- What a step of the world must keep for all that stood to stand. -/
structure Keeps (w : World) (ok : Nat → Nat → Prop) (L : Nat → Option Blk) (φ : Nat → Option Nat)
    (w' : World) (ok' : Nat → Nat → Prop) (L' : Nat → Option Blk) (φ' : Nat → Option Nat) : Prop where
  okUp : ∀ b o, ok b o → ok' b o
  cell : ∀ b o, ok b o → w'.cell? ⟨b, o, none⟩ = w.cell? ⟨b, o, none⟩
  cells : ∀ id sz ro d c, L id = some (.cells sz ro d c) → ∃ ro' d' c', L' id = some (.cells sz ro' d' c') ∧ c.length ≤ c'.length ∧
    (c'.length = c.length → φ' id = φ id ∧ ∀ b n, φ id = some b → CapOK w b n → CapOK w' b n)
  obj : ∀ id b, L id = some b → b.isC = false → ∃ b', L' id = some b' ∧ b.same b' ∧ φ' id = φ id

theorem Keeps.iter {w ok L φ w' ok' L' φ'} (k : Keeps w ok L φ w' ok' L' φ') : ∀ id s pos, L id = some (.iter s pos) → ∃ pos', L' id = some (.iter s pos') ∧ φ' id = φ id := by
  intro id s pos hL
  obtain ⟨b', h1, h2, h3⟩ := k.obj id _ hL rfl
  cases b' <;> simp only [Blk.same] at h2
  subst h2
  exact ⟨_, h1, h3⟩
theorem Keeps.loop {w ok L φ w' ok' L' φ'} (k : Keeps w ok L φ w' ok' L' φ') : ∀ id lc st pd sl, L id = some (.loop lc st pd sl) → ∃ st' pd' sl', L' id = some (.loop lc st' pd' sl') ∧ φ' id = φ id := by
  intro id lc st pd sl hL
  obtain ⟨b', h1, h2, h3⟩ := k.obj id _ hL rfl
  cases b' <;> simp only [Blk.same] at h2
  subst h2
  exact ⟨_, _, _, h1, h3⟩
theorem Keeps.defer {w ok L φ w' ok' L' φ'} (k : Keeps w ok L φ w' ok' L' φ') : ∀ id, L id = some .defer → L' id = some .defer ∧ φ' id = φ id := by
  intro id hL
  obtain ⟨b', h1, h2, h3⟩ := k.obj id _ hL rfl
  cases b' <;> simp only [Blk.same] at h2
  exact ⟨h1, h3⟩

theorem R.keep {w ok L φ w' ok' L' φ' a v} (k : Keeps w ok L φ w' ok' L' φ') (h : R w ok L φ a v) : R w' ok' L' φ' a v := by
  induction h with
  | pure a v h => exact .pure _ _ (h.mono k.okUp k.cell)
  | ref id off len hw va vn vc sz ro d c hL hle h =>
    obtain ⟨ro', d', c', hL', hcl, hc⟩ := k.cells id sz ro d c hL
    refine .ref id off len hw va vn vc sz ro' d' c' hL' (by omega) (fun e => ?_)
    · have hh : hw = c.length := by omega
      obtain ⟨e1, e2⟩ := hc (by omega)
      obtain ⟨r1, r2⟩ := h hh
      refine ⟨r1, ?_⟩
      rcases r2 with r2 | ⟨b, cap, a, h1, h2, h3, h4, h5⟩
      · exact .inl r2
      · refine .inr ⟨b, cap, a, by rw [e1]; exact h1, h2, h3, h4, ?_⟩
        rcases h5 with h5 | ⟨h5, h6⟩
        · exact .inl h5
        · exact .inr ⟨h5, e2 b _ h1 h6⟩
  | ptr id i j hw pa sz ro d c hL hle h =>
    obtain ⟨ro', d', c', hL', hcl, hc⟩ := k.cells id sz ro d c hL
    refine .ptr id i j hw pa sz ro' d' c' hL' (by omega) (fun e => ?_)
    · have hh : hw = c.length := by omega
      obtain ⟨e1, e2⟩ := hc (by omega)
      obtain ⟨b, h1, h2⟩ := h hh
      exact ⟨b, by rw [e1]; exact h1, h2⟩
  | it id s pos b hL hφ =>
    obtain ⟨pos', hL', hφ'⟩ := k.iter id s pos hL
    exact .it id s pos' b hL' (hφ' ▸ hφ)
  | yld id lc st pd sl b hL hφ =>
    obtain ⟨st', pd', sl', hL', hφ'⟩ := k.loop id lc st pd sl hL
    exact .yld id lc st' pd' sl' b hL' (hφ' ▸ hφ)
  | agg cs vs hl h1 h ih => exact .agg cs vs hl h1 ih
  | tuple cs vs hl h ih => exact .tuple cs vs hl ih
  | clo f k cs vs hl h ih => exact .clo f k cs vs hl ih
  | condT a v h ih => exact .condT a v ih

theorem Keeps.refl (w ok L φ) : Keeps w ok L φ w ok L φ :=
  ⟨fun _ _ h => h, fun _ _ _ => rfl, fun id sz ro d c h => ⟨ro, d, c, h, Nat.le_refl _, fun _ => ⟨rfl, fun _ _ _ h => h⟩⟩, fun id b h hc => ⟨b, h, Blk.same_refl hc, rfl⟩⟩

theorem Keeps.trans {w ok L φ w' ok' L' φ' w'' ok'' L'' φ''} (h : Keeps w ok L φ w' ok' L' φ') (k : Keeps w' ok' L' φ' w'' ok'' L'' φ'') : Keeps w ok L φ w'' ok'' L'' φ'' := by
  refine ⟨fun b o hb => k.okUp _ _ (h.okUp _ _ hb), fun b o hb => (k.cell _ _ (h.okUp _ _ hb)).trans (h.cell _ _ hb), fun id sz ro d c hL => ?_, fun id b hL hc => ?_⟩
  · obtain ⟨ro1, d1, c1, h1, h2, h3⟩ := h.cells id sz ro d c hL
    obtain ⟨ro2, d2, c2, k1, k2, k3⟩ := k.cells id sz ro1 d1 c1 h1
    refine ⟨ro2, d2, c2, k1, by omega, fun e => ?_⟩
    obtain ⟨h4, h5⟩ := h3 (by omega)
    obtain ⟨k4, k5⟩ := k3 (by omega)
    exact ⟨k4.trans h4, fun b n hb hc => k5 b n (h4 ▸ hb) (h5 b n hb hc)⟩
  · obtain ⟨b1, h1, h2, h3⟩ := h.obj id b hL hc
    obtain ⟨b2, k1, k2, k3⟩ := k.obj id b1 h1 (Blk.same_notC h2)
    exact ⟨b2, k1, Blk.same_trans h2 k2, k3.trans h3⟩

/-- The name of the block for the rounds' deferred calls, and the mark that names it. -/
def defId : Nat := 999998
def markOf (b : Nat) : List Deferred := [{ target := .collected b, args := #[] }]
/-- What the frame's deferred calls are: none, or the mark of a loop over a function. -/
def DefsOK (L : Nat → Option Blk) (φ : Nat → Option Nat) (ds : List Deferred) : Prop := ds = [] ∨ ∃ b, L defId = some .defer ∧ φ defId = some b ∧ ds = markOf b
theorem DefsOK.keep {w ok L φ w' ok' L' φ' ds} (k : Keeps w ok L φ w' ok' L' φ') (h : DefsOK L φ ds) : DefsOK L' φ' ds := by
  rcases h with h | ⟨b, h1, h2, h3⟩
  · exact .inl h
  · obtain ⟨k1, k2⟩ := k.defer _ h1
    exact .inr ⟨b, k1, k2.trans h2, h3⟩

/-- The abstract state stands for the frame and the world; what stood when the call began (E0) still stands. -/
structure Sim (N : Nat) (L0 : Nat → Option Blk) (φ0 : Nat → Option Nat) (ok0 : Nat → Nat → Prop) (w0 : World) (st : St) (ok : Nat → Nat → Prop) (φ : Nat → Option Nat) (a : Act) (w : World) : Prop where
  slots : ∀ t, R w ok st.lk φ (st.get t) (a.tmps.getD t undef)
  size : a.tmps.size = N
  defers : DefsOK st.lk φ a.defers
  heap : HeapOK w ok st.lk φ
  kept : Keeps w0 ok0 L0 φ0 w ok st.lk φ
  frame : Fr (fun b => ∃ i, φ0 i = some b) w0 w
  own : ∀ id b, φ id = some b → (∃ i, φ0 i = some b) ∨ w0.heap.size ≤ b
  okDn : ∀ b o, ok b o → ok0 b o ∨ w0.heap.size ≤ b ∨ ∃ i, φ0 i = some b

theorem Sim.ev {N L0 φ0 ok0 w0 st ok φ a w} (h : Sim N L0 φ0 ok0 w0 st ok φ a w) (x : Operand) : R w ok st.lk φ (st.ev x) (a.eval x) := by
  cases x with
  | tmp t => exact h.slots t
  | const v => exact .pure _ _ (Rp_ofVal w ok v)
  | global g => exact .pure _ _ (.any _)
  | func f => exact .pure _ _ (.clo f 0 [] [] rfl (fun i a v hi => by simp at hi))

/-- One step of the world, seen from the abstract state: what stood stands. -/
structure Ext (w0 : World) (X : Nat → Prop) (L : Nat → Option Blk) (ok : Nat → Nat → Prop) (φ : Nat → Option Nat) (w : World)
    (L' : Nat → Option Blk) (ok' : Nat → Nat → Prop) (φ' : Nat → Option Nat) (w' : World) : Prop where
  keeps : Keeps w ok L φ w' ok' L' φ'
  heap : HeapOK w' ok' L' φ'
  frame : (∀ id b, φ id = some b → X b ∨ w0.heap.size ≤ b) → Fr X w0 w → Fr X w0 w'
  own : (∀ id b, φ id = some b → X b ∨ w0.heap.size ≤ b) → w0.heap.size ≤ w.heap.size → ∀ id b, φ' id = some b → X b ∨ w0.heap.size ≤ b
  okDn : (∀ id b, φ id = some b → X b ∨ w0.heap.size ≤ b) → w0.heap.size ≤ w.heap.size → ∀ b o, ok' b o → ok b o ∨ w0.heap.size ≤ b ∨ X b

theorem Ext.refl {w0 X L ok φ w} (h : HeapOK w ok L φ) : Ext w0 X L ok φ w L ok φ w :=
  ⟨Keeps.refl .., h, fun _ h => h, fun h _ => h, fun _ _ _ _ h => .inl h⟩

theorem getD_set_same {α : Type} (a : Array α) (t : Nat) (v d : α) (h : t < a.size) : (a.setIfInBounds t v).getD t d = v := by
  simp [Array.getD, h]
theorem getD_set_other {α : Type} (a : Array α) (t u : Nat) (v d : α) (h : t ≠ u) : (a.setIfInBounds t v).getD u d = a.getD u d := by
  simp [Array.getD_eq_getD_getElem?, Array.getElem?_setIfInBounds_ne h]

def dstOK (N : Nat) : Option Nat → Bool
  | some t => decide (t < N)
  | none => true

theorem Sim.put {N L0 φ0 ok0 w0 st ok φ a w} (h : Sim N L0 φ0 ok0 w0 st ok φ a w) {dst : Option Nat} (hd : dstOK N dst = true) {v' : AV} {v : Value}
    {u : List (Nat × Blk)} {ok' φ' w'} (hx : Ext w0 (fun b => ∃ i, φ0 i = some b) st.lk ok φ w (st.upd u).lk ok' φ' w') (hv : R w' ok' (st.upd u).lk φ' v' v) :
    Sim N L0 φ0 ok0 w0 ((st.upd u).put dst v') ok' φ' (a.put dst v) w' := by
  have hL : ((st.upd u).put dst v').lk = (st.upd u).lk := by cases dst <;> rfl
  refine ⟨?_, ?_, ?_, ?_, by rw [hL]; exact h.kept.trans hx.keeps, hx.frame h.own h.frame, hx.own h.own h.frame.size, fun b o hb => ?_⟩
  · intro t
    rw [hL]
    cases dst with
    | none => exact (h.slots t).keep hx.keeps
    | some d =>
      have hd' : d < a.tmps.size := by rw [h.size]; simpa [dstOK] using hd
      by_cases e : d = t
      · subst e
        simp only [Act.put, getD_set_same _ _ _ _ hd', St.put, St.get, lkA, if_true]
        exact hv
      · simp only [Act.put, getD_set_other _ _ _ _ _ e, St.put, St.get, lkA, if_neg e]
        exact (h.slots t).keep hx.keeps
  · cases dst <;> simp [Act.put, h.size]
  · rw [hL]; cases dst <;> exact h.defers.keep hx.keeps
  · rw [hL]; exact hx.heap
  · rcases hx.okDn h.own h.frame.size b o hb with h1 | h1 | h1
    · exact h.okDn _ _ h1
    · exact .inr (.inl h1)
    · exact .inr (.inr h1)

theorem idx_lt {i n j sz : Nat} (h1 : i < n) (h2 : j < sz) : i * sz + j < n * sz := by
  have h3 : (i + 1) * sz ≤ n * sz := Nat.mul_le_mul_right _ h1
  rw [Nat.add_mul, Nat.one_mul] at h3
  omega

theorem RE.nil (w ok L φ sz) : RE w ok L φ sz [] [] := ⟨by simp, by simp, by simp⟩

theorem RE.keep {w ok L φ w' ok' L' φ' sz c vs} (k : ∀ a v, R w ok L φ a v → R w' ok' L' φ' a v) (h : RE w ok L φ sz c vs) : RE w' ok' L' φ' sz c vs :=
  ⟨h.1, h.2.1, fun i x j y hx hy => let ⟨v, h1, h2, h3⟩ := h.2.2 i x j y hx hy; ⟨v, h1, h2, k _ _ h3⟩⟩

theorem RE.append {w ok L φ sz c c' vs vs'} (h : RE w ok L φ sz c vs) (h' : RE w ok L φ sz c' vs') : RE w ok L φ sz (c ++ c') (vs ++ vs') := by
  obtain ⟨l1, s1, r1⟩ := h
  obtain ⟨l2, s2, r2⟩ := h'
  refine ⟨by simp [l1, l2, Nat.add_mul], fun i x hx => ?_, fun i x j y hx hy => ?_⟩
  · rw [List.getElem?_append] at hx
    split at hx
    · exact s1 _ _ hx
    · exact s2 _ _ hx
  · rw [List.getElem?_append] at hx
    split at hx
    · rename_i hlt
      have hj : j < sz := by rw [← s1 _ _ hx]; exact (List.getElem?_eq_some_iff.1 hy).1
      obtain ⟨v, h1, h2⟩ := r1 i x j y hx hy
      refine ⟨v, ?_, h2⟩
      rw [List.getElem?_append, if_pos (by rw [l1]; exact idx_lt hlt hj)]
      exact h1
    · rename_i hge
      obtain ⟨v, h1, h2⟩ := r2 _ x j y hx hy
      refine ⟨v, ?_, h2⟩
      have e : i * sz + j = vs.length + ((i - c.length) * sz + j) := by
        rw [l1, ← Nat.add_assoc, ← Nat.add_mul]
        congr 2
        omega
      rw [e, List.getElem?_append_right (by omega)]
      simpa using h1

theorem RE.sub {w ok L φ sz c vs} (h : RE w ok L φ sz c vs) (k n : Nat) : RE w ok L φ sz ((c.drop k).take n) ((vs.drop (k * sz)).take (n * sz)) := by
  obtain ⟨l1, s1, r1⟩ := h
  have get : ∀ (i : Nat) (x : AV), ((c.drop k).take n)[i]? = some x → i < n ∧ c[k + i]? = some x := by
    intro i x hx
    rw [List.getElem?_take] at hx
    split at hx
    · rw [List.getElem?_drop] at hx; exact ⟨by assumption, hx⟩
    · simp at hx
  refine ⟨?_, fun i x hx => s1 _ _ (get i x hx).2, fun i x j y hx hy => ?_⟩
  · simp only [List.length_take, List.length_drop, l1, ← Nat.sub_mul]
    rcases Nat.le_total n (c.length - k) with h | h
    · rw [Nat.min_eq_left h, Nat.min_eq_left (Nat.mul_le_mul_right _ h)]
    · rw [Nat.min_eq_right h, Nat.min_eq_right (Nat.mul_le_mul_right _ h)]
  · obtain ⟨hi, hx'⟩ := get i x hx
    obtain ⟨v, h1, h2⟩ := r1 _ x j y hx' hy
    have hj : j < sz := by rw [← s1 _ _ hx']; exact (List.getElem?_eq_some_iff.1 hy).1
    refine ⟨v, ?_, h2⟩
    rw [List.getElem?_take, if_pos (idx_lt hi hj), List.getElem?_drop]
    rw [show k * sz + (i * sz + j) = (k + i) * sz + j by rw [Nat.add_mul]; omega]
    exact h1

theorem RE.one {w ok L φ} {x : AV} {vs : List Value} (h1 : vs.length = x.cells.length) (h2 : ∀ (i : Nat) (v : Value), vs[i]? = some v → v.oneCell' = true)
    (h3 : ∀ (i : Nat) (a : AV) (v : Value), x.cells[i]? = some a → vs[i]? = some v → R w ok L φ a v) : RE w ok L φ x.cells.length [x] vs := by
  refine ⟨by simp [h1], fun i y hy => ?_, fun i y j z hy hz => ?_⟩
  · cases i with
    | zero => simp at hy; subst hy; rfl
    | succ n => simp at hy
  · cases i with
    | succ n => simp at hy
    | zero =>
      simp at hy; subst hy
      have hj : j < vs.length := by rw [h1]; exact (List.getElem?_eq_some_iff.1 hz).1
      exact ⟨vs[j], by simp, h2 j _ (List.getElem?_eq_getElem hj), h3 j _ _ hz (List.getElem?_eq_getElem hj)⟩

theorem RE.set {w ok L φ sz c vs x us} (h : RE w ok L φ sz c vs) (i : Nat) (hi : i < c.length) (hx : RE w ok L φ sz [x] us) :
    RE w ok L φ sz (c.set i x) (vs.take (i * sz) ++ (us ++ vs.drop (i * sz + us.length))) := by
  have e : c.set i x = (c.drop 0).take i ++ ([x] ++ (c.drop (i + 1)).take (c.length - (i + 1))) := by
    rw [List.set_eq_take_append_cons_drop, if_pos hi]
    simp
    rw [List.take_of_length_le (by simp)]
  have hu : us.length = sz := by have := hx.1; simpa using this
  have h1 := h.sub 0 i
  have h3 := h.sub (i + 1) (c.length - (i + 1))
  rw [e]
  have key := h1.append (hx.append h3)
  have e2 : (vs.drop ((i + 1) * sz)).take ((c.length - (i + 1)) * sz) = vs.drop (i * sz + us.length) := by
    rw [hu, Nat.add_mul, Nat.one_mul]
    refine List.take_of_length_le ?_
    rw [List.length_drop, h.1, Nat.sub_mul, Nat.add_mul, Nat.one_mul]
    exact Nat.le_refl _
  rw [e2] at key
  simpa using key
end Go.Abs
