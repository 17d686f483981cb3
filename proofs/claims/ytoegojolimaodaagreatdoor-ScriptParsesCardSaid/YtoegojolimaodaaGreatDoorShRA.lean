import Derived.Calls
import Derived.RangeFuncRecord
import Derived.RangeFuncCalls
import Derived.TacticsIn
import Derived.OrdersIn
import Derived.Laws.Externs
import Derived.Below
import Derived.Orders
import Derived.Laws.Rows
import Derived.Laws.Sem
import Derived.Laws.World
import Derived.Laws.Cells
import Derived.Laws.Strings
import Derived.Laws.AppendOwn
import Derived.Laws.MakeOwn
import Derived.Laws.Slices
import Derived.Laws.BytesString
import GoSem.ClaimData
import Derived.Laws.StructEq
import Derived.Lib.Builder
import Derived.Lib.UnsafeStr
section
set_option linter.unusedVariables false
set_option linter.unusedSimpArgs false
namespace Go.Abs
inductive AV where
  | any
  | bool (b : Bool)
  | int (k : IntKind) (n : Int)
  | str (s : List UInt8)
  | agg (cs : List AV)
  | tuple (vs : List AV)
  | list (sz : Nat) (l : List AV)
  | own (sz : Nat) (l : List AV)
  | radr (cs : List AV)
  | nils
  | nil0
  | nilp
  | nili
  | nilf
  | yld (id : Nat)
  | ref (id off len hw : Nat)
  | ptr (id i j hw : Nat)
  | it (id : Nat)
  | nxt (more : Bool) (pos rune : Int)
  | clo (f : FuncId) (k : Nat) (caps : List AV)
  | cond (e : Bool) (v : AV)
  | iface (t : TypeId) (v : AV)
  | mp (id : Nat)
def AV.cells : AV → List AV
  | .agg cs => cs
  | v => [v]
structure LoopC where
  ps : Array Tmp
  assign : Code
  body : Code
  n : Nat
inductive Blk where
  | cells (sz : Nat) (ro : Bool) (d : AV) (c : List AV)
  | iter (s : List UInt8) (pos : Nat)
  | loop (lc : LoopC) (st : LoopState) (pd : Option Code) (sl : List (Nat × AV))
  | defer
  | map (es : List (List UInt8 × Int))
def lkA : List (Nat × AV) → Nat → AV
  | [], _ => .any
  | (k, v) :: r, t => if k = t then v else lkA r t
inductive Rp (w : World) (ok : Nat → Nat → Prop) : AV → Value → Prop
  | any (v : Value) : Rp w ok .any v
  | bool (b : Bool) : Rp w ok (.bool b) (.bool b)
  | int (k : IntKind) (n : Int) : Rp w ok (.int k n) (.int k n)
  | str (s : List UInt8) : Rp w ok (.str s) (.string ⟨s.toArray⟩)
  | agg (cs : List AV) (vs : List Value) (hl : vs.length = cs.length) (h1 : ∀ (i : Nat) (v : Value), vs[i]? = some v → v.oneCell' = true)
      (h : ∀ (i : Nat) (a : AV) (v : Value), cs[i]? = some a → vs[i]? = some v → Rp w ok a v) : Rp w ok (.agg cs) (.agg vs.toArray)
  | tuple (cs : List AV) (vs : List Value) (hl : vs.length = cs.length)
      (h : ∀ (i : Nat) (a : AV) (v : Value), cs[i]? = some a → vs[i]? = some v → Rp w ok a v) : Rp w ok (.tuple cs) (.tuple vs.toArray)
  | list0 (sz : Nat) (a : Option Addr) (cap : Nat) (hm : cap ≤ maxLen) : Rp w ok (.list sz []) (.slice a 0 cap)
  | list (sz : Nat) (l : List AV) (b off cap : Nat) (cv : Nat → Nat → Value) (hcap : l.length ≤ cap) (hm : cap ≤ maxLen)
      (hsz : ∀ (i : Nat) (x : AV), l[i]? = some x → x.cells.length = sz)
      (h1 : ∀ (i : Nat) (x : AV) (j : Nat) (y : AV), l[i]? = some x → x.cells[j]? = some y →
        ok b (off + i * sz + j) ∧ w.cell? ⟨b, off + i * sz + j, none⟩ = some (cv i j) ∧ (cv i j).oneCell' = true)
      (h : ∀ (i : Nat) (x : AV) (j : Nat) (y : AV), l[i]? = some x → x.cells[j]? = some y → Rp w ok y (cv i j)) : Rp w ok (.list sz l) (.slice (some ⟨b, off, none⟩) l.length cap)
  | own (sz : Nat) (l : List AV) (b : Bool) (h : b = true → l = []) : Rp w ok (.own sz l) (.bool b)
  | radr (cs : List AV) (b off : Nat) (cv : Nat → Value)
      (h1 : ∀ (j : Nat) (y : AV), cs[j]? = some y → ok b (off + j) ∧ w.cell? ⟨b, off + j, none⟩ = some (cv j) ∧ (cv j).oneCell' = true)
      (h : ∀ (j : Nat) (y : AV), cs[j]? = some y → Rp w ok y (cv j)) : Rp w ok (.radr cs) (.pointer (some ⟨b, off, none⟩))
  | nils : Rp w ok .nils (.slice none 0 0)
  | nil0 (a : Option Addr) : Rp w ok .nil0 (.slice a 0 0)
  | nilp : Rp w ok .nilp (.pointer none)
  | nili : Rp w ok .nili .nilIface
  | nilf : Rp w ok .nilf .nilFunc
  | nxtT (p r : Int) : Rp w ok (.nxt true p r) (.tuple #[.bool true, .int .i64 p, .int .i32 r])
  | nxtF (p r : Int) : Rp w ok (.nxt false p r) (.tuple #[.bool false])
  | clo (f : FuncId) (k : Nat) (cs : List AV) (vs : List Value) (hl : vs.length = cs.length)
      (h : ∀ (i : Nat) (a : AV) (v : Value), cs[i]? = some a → vs[i]? = some v → Rp w ok a v) : Rp w ok (.clo f k cs) (.func (.func f) (vs.take k).toArray (vs.drop k).toArray)
  | iface (t : TypeId) (a : AV) (v : Value) (h : Rp w ok a v) : Rp w ok (.iface t a) (.iface t v)
  | condT (a : AV) (v : Value) (h : Rp w ok a v) : Rp w ok (.cond true a) v
  | condF (a : AV) : Rp w ok (.cond false a) undef
theorem Rp.mono {w w' : World} {ok ok' : Nat → Nat → Prop} {a : AV} {v : Value} (h : Rp w ok a v) (hok : ∀ b o, ok b o → ok' b o)
    (hc : ∀ b o, ok b o → w'.cell? ⟨b, o, none⟩ = w.cell? ⟨b, o, none⟩) : Rp w' ok' a v := by
  induction h with
  | any v => exact .any v
  | bool b => exact .bool b
  | int k n => exact .int k n
  | str s => exact .str s
  | agg cs vs hl h1 h ih => exact .agg cs vs hl h1 ih
  | tuple cs vs hl h ih => exact .tuple cs vs hl ih
  | list0 sz a cap hm => exact .list0 sz a cap hm
  | list sz l b off cap cv hcap hm hsz h1 h ih =>
    exact .list sz l b off cap cv hcap hm hsz (fun i x j y hi hj => by
      obtain ⟨a1, a2, a3⟩ := h1 i x j y hi hj
      exact ⟨hok _ _ a1, by rw [hc _ _ a1]; exact a2, a3⟩) ih
  | own sz l b h => exact .own sz l b h
  | radr cs b off cv h1 h ih =>
    exact .radr cs b off cv (fun j y hj => by
      obtain ⟨a1, a2, a3⟩ := h1 j y hj
      exact ⟨hok _ _ a1, by rw [hc _ _ a1]; exact a2, a3⟩) ih
  | nils => exact .nils
  | nil0 a => exact .nil0 a
  | nilp => exact .nilp
  | nili => exact .nili
  | nilf => exact .nilf
  | nxtT p r => exact .nxtT p r
  | nxtF p r => exact .nxtF p r
  | clo f k cs vs hl h ih => exact .clo f k cs vs hl ih
  | iface t a v h ih => exact .iface t a v ih
  | condT a v h ih => exact .condT a v ih
  | condF a => exact .condF a
def CapOK (w : World) (b n : Nat) : Prop := ∃ cur e fz, w.heap[b]? = some (.cells cur e fz) ∧ n ≤ cur.size
def RefV (w : World) (φ : Nat → Option Nat) (sz id off len hw : Nat) (v : Value) : Prop :=
  off + len ≤ hw ∧ ((hw = 0 ∧ ∃ a, v = .slice a 0 0) ∨
    ∃ b cap a, φ id = some b ∧ v = .slice (some a) len cap ∧ len ≤ cap ∧ cap ≤ maxLen ∧
      (cap = 0 ∨ (a = ⟨b, off * sz, none⟩ ∧ CapOK w b ((off + cap) * sz))))
inductive R (w : World) (ok : Nat → Nat → Prop) (L : Nat → Option Blk) (φ : Nat → Option Nat) : AV → Value → Prop
  | pure (a : AV) (v : Value) (h : Rp w ok a v) : R w ok L φ a v
  | ref (id off len hw : Nat) (va : Option Addr) (vn vc : Nat) (sz : Nat) (ro : Bool) (d : AV) (c : List AV) (hL : L id = some (.cells sz ro d c)) (hle : hw ≤ c.length)
      (h : hw = c.length → RefV w φ sz id off len hw (.slice va vn vc)) : R w ok L φ (.ref id off len hw) (.slice va vn vc)
  | ptr (id i j hw : Nat) (pa : Addr) (sz : Nat) (ro : Bool) (d : AV) (c : List AV) (hL : L id = some (.cells sz ro d c)) (hle : hw ≤ c.length)
      (h : hw = c.length → ∃ b, φ id = some b ∧ pa = ⟨b, i * sz + j, none⟩) : R w ok L φ (.ptr id i j hw) (.pointer (some pa))
  | it (id : Nat) (s : List UInt8) (pos b : Nat) (hL : L id = some (.iter s pos)) (hφ : φ id = some b) :
      R w ok L φ (.it id) (.pointer (some ⟨b, 0, none⟩))
  | mp (id : Nat) (es : List (List UInt8 × Int)) (b : Nat) (hL : L id = some (.map es)) (hφ : φ id = some b) : R w ok L φ (.mp id) (.map (some b))
  | yld (id : Nat) (lc : LoopC) (st : LoopState) (pd : Option Code) (sl : List (Nat × AV)) (b : Nat) (hL : L id = some (.loop lc st pd sl)) (hφ : φ id = some b) :
      R w ok L φ (.yld id) (.func (.yield b) #[] #[])
  | agg (cs : List AV) (vs : List Value) (hl : vs.length = cs.length) (h1 : ∀ (i : Nat) (v : Value), vs[i]? = some v → v.oneCell' = true)
      (h : ∀ (i : Nat) (a : AV) (v : Value), cs[i]? = some a → vs[i]? = some v → R w ok L φ a v) : R w ok L φ (.agg cs) (.agg vs.toArray)
  | tuple (cs : List AV) (vs : List Value) (hl : vs.length = cs.length)
      (h : ∀ (i : Nat) (a : AV) (v : Value), cs[i]? = some a → vs[i]? = some v → R w ok L φ a v) : R w ok L φ (.tuple cs) (.tuple vs.toArray)
  | clo (f : FuncId) (k : Nat) (cs : List AV) (vs : List Value) (hl : vs.length = cs.length)
      (h : ∀ (i : Nat) (a : AV) (v : Value), cs[i]? = some a → vs[i]? = some v → R w ok L φ a v) : R w ok L φ (.clo f k cs) (.func (.func f) (vs.take k).toArray (vs.drop k).toArray)
  | condT (a : AV) (v : Value) (h : R w ok L φ a v) : R w ok L φ (.cond true a) v
def RE (w : World) (ok : Nat → Nat → Prop) (L : Nat → Option Blk) (φ : Nat → Option Nat) (sz : Nat) (c : List AV) (vs : List Value) : Prop :=
  vs.length = c.length * sz ∧ (∀ (i : Nat) (x : AV), c[i]? = some x → x.cells.length = sz) ∧
    ∀ (i : Nat) (x : AV) (j : Nat) (y : AV), c[i]? = some x → x.cells[j]? = some y → ∃ v, vs[i * sz + j]? = some v ∧ v.oneCell' = true ∧ R w ok L φ y v
structure LoopOK (w : World) (ok : Nat → Nat → Prop) (L : Nat → Option Blk) (φ : Nat → Option Nat) (lc : LoopC) (st : LoopState) (pd : Option Code) (sl : List (Nat × AV)) (r : Loop) : Prop where
  state : r.state = st
  pending : r.pending = pd
  params : r.params = lc.ps
  assign : r.assign = lc.assign
  body : r.body = lc.body
  size : r.tmps.size = lc.n
  slots : ∀ t, R w ok L φ (lkA sl t) (r.tmps.getD t undef)
theorem LoopOK.keep {w ok L φ w' ok' L' φ' lc st pd sl r} (k : ∀ a v, R w ok L φ a v → R w' ok' L' φ' a v) (h : LoopOK w ok L φ lc st pd sl r) : LoopOK w' ok' L' φ' lc st pd sl r :=
  ⟨h.state, h.pending, h.params, h.assign, h.body, h.size, fun t => k _ _ (h.slots t)⟩
def Blk.isC : Blk → Bool
  | .cells .. => true
  | _ => false
def Blk.same : Blk → Blk → Prop
  | .iter s _, .iter s' _ => s = s'
  | .loop lc _ _ _, .loop lc' _ _ _ => lc = lc'
  | .defer, .defer => True
  | .map _, .map _ => True
  | _, _ => False
theorem Blk.same_refl {b : Blk} (h : b.isC = false) : b.same b := by cases b <;> simp_all [Blk.isC, Blk.same]
theorem Blk.same_trans {a b c : Blk} (h : a.same b) (k : b.same c) : a.same c := by
  cases a <;> cases b <;> simp only [Blk.same] at h <;> cases c <;> simp_all [Blk.same]
theorem Blk.same_notC {a b : Blk} (h : a.same b) : b.isC = false := by
  cases a <;> cases b <;> simp_all [Blk.same, Blk.isC]
theorem Blk.same_notC' {a b : Blk} (h : a.same b) : a.isC = false := by
  cases a <;> cases b <;> simp_all [Blk.same, Blk.isC]
inductive ObjR (w : World) (ok : Nat → Nat → Prop) (L : Nat → Option Blk) (φ : Nat → Option Nat) : Blk → Obj → Prop
  | iter (s : List UInt8) (pos : Nat) : ObjR w ok L φ (.iter s pos) (.stringIter ⟨s.toArray⟩ pos)
  | loop (lc : LoopC) (st : LoopState) (pd : Option Code) (sl : List (Nat × AV)) (r : Loop) (h : LoopOK w ok L φ lc st pd sl r) : ObjR w ok L φ (.loop lc st pd sl) (.loop r)
  | defer : ObjR w ok L φ .defer (.deferred (some []))
  | map (es : List (List UInt8 × Int)) (ents : List MapEntry) (clock : Nat) (h : ents.map (fun e => (e.key, e.val)) = es.map (fun p => (Value.string ⟨p.1.toArray⟩, Value.int .i64 p.2))) : ObjR w ok L φ (.map es) (.map ents.toArray clock)
theorem ObjR.keep {w ok L φ w' ok' L' φ' b o} (k : ∀ a v, R w ok L φ a v → R w' ok' L' φ' a v) (h : ObjR w ok L φ b o) : ObjR w' ok' L' φ' b o := by
  cases h with
  | iter s pos => exact .iter s pos
  | loop lc st pd sl r h => exact .loop lc st pd sl r (h.keep k)
  | defer => exact .defer
  | map es ents clock h => exact .map es ents clock h
theorem ObjR.notCells {w ok L φ b o} (h : ObjR w ok L φ b o) {cs : Array Value} {e : TypeId} {fz : Nat × Nat} : o ≠ .cells cs e fz := by
  cases h <;> simp
theorem ObjR.notC {w ok L φ b o} (h : ObjR w ok L φ b o) : b.isC = false := by
  cases h <;> rfl
def notFz : AV → Bool
  | .nxt .. => false
  | _ => true
def TyD : AV → TypeId → Prop
  | .iface t _, e => e = t
  | _, _ => True
def BF (d : AV) (e : TypeId) (n lo hi : Nat) : Prop := (notFz d = true → ∀ o, o < n → ¬ (lo ≤ o ∧ o < hi)) ∧ TyD d e
structure HeapOK (w : World) (ok : Nat → Nat → Prop) (L : Nat → Option Blk) (φ : Nat → Option Nat) : Prop where
  blk : ∀ id sz ro d c, L id = some (.cells sz ro d c) → (φ id = none ∧ c = []) ∨
    ∃ b vs rest e lo hi, φ id = some b ∧ w.heap[b]? = some (.cells (vs ++ rest).toArray e (lo, hi)) ∧ BF d e (vs ++ rest).length lo hi ∧
      RE w ok L φ sz c vs
  obj : ∀ id b, L id = some b → b.isC = false → ∃ k o, φ id = some k ∧ w.heap[k]? = some o ∧ ObjR w ok L φ b o
  dom : ∀ id, L id = none → φ id = none
  inj : ∀ i j b, φ i = some b → φ j = some b → i = j
  shut : ∀ b o, ok b o → b < w.heap.size ∧ ∀ id, φ id = some b → ∃ sz d c, L id = some (.cells sz true d c) ∧ o < c.length * sz
theorem HeapOK.iter {w ok L φ} (h : HeapOK w ok L φ) : ∀ id s pos, L id = some (.iter s pos) → ∃ b, φ id = some b ∧ w.heap[b]? = some (.stringIter ⟨s.toArray⟩ pos) := by
  intro id s pos hL
  obtain ⟨k, o, h1, h2, h3⟩ := h.obj id _ hL rfl
  cases h3
  exact ⟨k, h1, h2⟩
structure Fr (X : Nat → Prop) (w w' : World) : Prop where
  os : w'.os = w.os
  tape : w'.tape = w.tape
  output : w'.output = w.output
  size : w.heap.size ≤ w'.heap.size
  block : ∀ k, k < w.heap.size → ¬ X k → w'.heap[k]? = w.heap[k]?
theorem Fr.refl (X : Nat → Prop) (w : World) : Fr X w w := ⟨rfl, rfl, rfl, Nat.le_refl _, fun _ _ _ => rfl⟩
theorem Fr.trans {X Y : Nat → Prop} {a b c : World} (h : Fr X a b) (k : Fr Y b c) (hY : ∀ x, Y x → X x ∨ a.heap.size ≤ x) : Fr X a c :=
  ⟨k.os.trans h.os, k.tape.trans h.tape, k.output.trans h.output, Nat.le_trans h.size k.size, fun i hi hx =>
    (k.block i (Nat.lt_of_lt_of_le hi h.size) (fun hy => by rcases hY i hy with h1 | h1; exact hx h1; omega)).trans (h.block i hi hx)⟩
structure St where
  tmps : List (Nat × AV)
  L : List (Nat × Blk)
def lkB : List (Nat × Blk) → Nat → Option Blk
  | [], _ => none
  | (k, v) :: r, t => if k = t then some v else lkB r t
def St.get (s : St) (t : Nat) : AV := lkA s.tmps t
def St.lk (s : St) (id : Nat) : Option Blk := lkB s.L id
def St.put (s : St) (t : Option Nat) (v : AV) : St := match t with | some t => ⟨(t, v) :: s.tmps, s.L⟩ | none => s
def St.upd (s : St) (u : List (Nat × Blk)) : St := ⟨s.tmps, u ++ s.L⟩
def AV.ofVal : Value → AV
  | .bool b => .bool b
  | .int k n => .int k n
  | .string s => .str s.data.toList
  | .slice none 0 0 => .nils
  | .pointer none => .nilp
  | .nilIface => .nili
  | .nilFunc => .nilf
  | _ => .any
def St.ev (s : St) : Operand → AV
  | .tmp t => s.get t
  | .const v => .ofVal v
  | .func f => .clo f 0 []
  | .global _ => .any
theorem Rp_ofVal (w : World) (ok : Nat → Nat → Prop) (v : Value) : Rp w ok (.ofVal v) v := by
  unfold AV.ofVal
  split
  · exact .bool _
  · exact .int _ _
  · rename_i s
    have := Rp.str (w := w) (ok := ok) s.data.toList
    simpa using this
  · exact .nils
  · exact .nilp
  · exact .nili
  · exact .nilf
  · exact .any _
structure Keeps (w : World) (ok : Nat → Nat → Prop) (L : Nat → Option Blk) (φ : Nat → Option Nat)
    (w' : World) (ok' : Nat → Nat → Prop) (L' : Nat → Option Blk) (φ' : Nat → Option Nat) : Prop where
  okUp : ∀ b o, ok b o → ok' b o
  cell : ∀ b o, ok b o → w'.cell? ⟨b, o, none⟩ = w.cell? ⟨b, o, none⟩
  cells : ∀ id sz ro d c, L id = some (.cells sz ro d c) → ∃ ro' d' c', L' id = some (.cells sz ro' d' c') ∧ c.length ≤ c'.length ∧
    (c'.length = c.length → φ' id = φ id ∧ ∀ b n, φ id = some b → CapOK w b n → CapOK w' b n)
  obj : ∀ id b, L id = some b → b.isC = false → ∃ b', L' id = some b' ∧ b.same b' ∧ φ' id = φ id
theorem Keeps.iter {w ok L φ w' ok' L' φ'} (k : Keeps w ok L φ w' ok' L' φ') : ∀ id s pos, L id = some (.iter s pos) → ∃ pos', L' id = some (.iter s pos') ∧ φ' id = φ id := by
  intro id s pos hL
  obtain ⟨b', h1, h2, h3⟩ := k.obj id _ hL rfl
  cases b' <;> simp only [Blk.same] at h2
  subst h2
  exact ⟨_, h1, h3⟩
theorem Keeps.map {w ok L φ w' ok' L' φ'} (k : Keeps w ok L φ w' ok' L' φ') : ∀ id es, L id = some (.map es) → ∃ es', L' id = some (.map es') ∧ φ' id = φ id := by
  intro id es hL
  obtain ⟨b', h1, h2, h3⟩ := k.obj id _ hL rfl
  cases b' <;> simp only [Blk.same] at h2
  exact ⟨_, h1, h3⟩
theorem Keeps.loop {w ok L φ w' ok' L' φ'} (k : Keeps w ok L φ w' ok' L' φ') : ∀ id lc st pd sl, L id = some (.loop lc st pd sl) → ∃ st' pd' sl', L' id = some (.loop lc st' pd' sl') ∧ φ' id = φ id := by
  intro id lc st pd sl hL
  obtain ⟨b', h1, h2, h3⟩ := k.obj id _ hL rfl
  cases b' <;> simp only [Blk.same] at h2
  subst h2
  exact ⟨_, _, _, h1, h3⟩
theorem Keeps.defer {w ok L φ w' ok' L' φ'} (k : Keeps w ok L φ w' ok' L' φ') : ∀ id, L id = some .defer → L' id = some .defer ∧ φ' id = φ id := by
  intro id hL
  obtain ⟨b', h1, h2, h3⟩ := k.obj id _ hL rfl
  cases b' <;> simp only [Blk.same] at h2
  exact ⟨h1, h3⟩
theorem R.keep {w ok L φ w' ok' L' φ' a v} (k : Keeps w ok L φ w' ok' L' φ') (h : R w ok L φ a v) : R w' ok' L' φ' a v := by
  induction h with
  | pure a v h => exact .pure _ _ (h.mono k.okUp k.cell)
  | ref id off len hw va vn vc sz ro d c hL hle h =>
    obtain ⟨ro', d', c', hL', hcl, hc⟩ := k.cells id sz ro d c hL
    refine .ref id off len hw va vn vc sz ro' d' c' hL' (by omega) (fun e => ?_)
    · have hh : hw = c.length := by omega
      obtain ⟨e1, e2⟩ := hc (by omega)
      obtain ⟨r1, r2⟩ := h hh
      refine ⟨r1, ?_⟩
      rcases r2 with r2 | ⟨b, cap, a, h1, h2, h3, h4, h5⟩
      · exact .inl r2
      · refine .inr ⟨b, cap, a, by rw [e1]; exact h1, h2, h3, h4, ?_⟩
        rcases h5 with h5 | ⟨h5, h6⟩
        · exact .inl h5
        · exact .inr ⟨h5, e2 b _ h1 h6⟩
  | ptr id i j hw pa sz ro d c hL hle h =>
    obtain ⟨ro', d', c', hL', hcl, hc⟩ := k.cells id sz ro d c hL
    refine .ptr id i j hw pa sz ro' d' c' hL' (by omega) (fun e => ?_)
    · have hh : hw = c.length := by omega
      obtain ⟨e1, e2⟩ := hc (by omega)
      obtain ⟨b, h1, h2⟩ := h hh
      exact ⟨b, by rw [e1]; exact h1, h2⟩
  | it id s pos b hL hφ =>
    obtain ⟨pos', hL', hφ'⟩ := k.iter id s pos hL
    exact .it id s pos' b hL' (hφ' ▸ hφ)
  | yld id lc st pd sl b hL hφ =>
    obtain ⟨st', pd', sl', hL', hφ'⟩ := k.loop id lc st pd sl hL
    exact .yld id lc st' pd' sl' b hL' (hφ' ▸ hφ)
  | mp id es b hL hφ =>
    obtain ⟨es', hL', hφ'⟩ := k.map id es hL
    exact .mp id es' b hL' (hφ' ▸ hφ)
  | agg cs vs hl h1 h ih => exact .agg cs vs hl h1 ih
  | tuple cs vs hl h ih => exact .tuple cs vs hl ih
  | clo f k cs vs hl h ih => exact .clo f k cs vs hl ih
  | condT a v h ih => exact .condT a v ih
theorem Keeps.refl (w ok L φ) : Keeps w ok L φ w ok L φ :=
  ⟨fun _ _ h => h, fun _ _ _ => rfl, fun id sz ro d c h => ⟨ro, d, c, h, Nat.le_refl _, fun _ => ⟨rfl, fun _ _ _ h => h⟩⟩, fun id b h hc => ⟨b, h, Blk.same_refl hc, rfl⟩⟩
theorem Keeps.trans {w ok L φ w' ok' L' φ' w'' ok'' L'' φ''} (h : Keeps w ok L φ w' ok' L' φ') (k : Keeps w' ok' L' φ' w'' ok'' L'' φ'') : Keeps w ok L φ w'' ok'' L'' φ'' := by
  refine ⟨fun b o hb => k.okUp _ _ (h.okUp _ _ hb), fun b o hb => (k.cell _ _ (h.okUp _ _ hb)).trans (h.cell _ _ hb), fun id sz ro d c hL => ?_, fun id b hL hc => ?_⟩
  · obtain ⟨ro1, d1, c1, h1, h2, h3⟩ := h.cells id sz ro d c hL
    obtain ⟨ro2, d2, c2, k1, k2, k3⟩ := k.cells id sz ro1 d1 c1 h1
    refine ⟨ro2, d2, c2, k1, by omega, fun e => ?_⟩
    obtain ⟨h4, h5⟩ := h3 (by omega)
    obtain ⟨k4, k5⟩ := k3 (by omega)
    exact ⟨k4.trans h4, fun b n hb hc => k5 b n (h4 ▸ hb) (h5 b n hb hc)⟩
  · obtain ⟨b1, h1, h2, h3⟩ := h.obj id b hL hc
    obtain ⟨b2, k1, k2, k3⟩ := k.obj id b1 h1 (Blk.same_notC h2)
    exact ⟨b2, k1, Blk.same_trans h2 k2, k3.trans h3⟩
def defId : Nat := 999998
def markOf (b : Nat) : List Deferred := [{ target := .collected b, args := #[] }]
structure OldOK (w : World) (ok : Nat → Nat → Prop) (φ : Nat → Option Nat) (b : Nat) : Prop where
  at_ : w.heap[b]? = some (.deferred (some []))
  name : ∀ i, φ i ≠ some b
  shut : ∀ o, ¬ ok b o
def CurOK (s0 : Nat) (L : Nat → Option Blk) (φ : Nat → Option Nat) (ds : List Deferred) : Prop := ds = [] ∨ ∃ b, L defId = some .defer ∧ φ defId = some b ∧ s0 ≤ b ∧ ds = markOf b
def DefsOK (s0 : Nat) (w : World) (ok : Nat → Nat → Prop) (L : Nat → Option Blk) (φ : Nat → Option Nat) (ds : List Deferred) : Prop :=
  ∃ (cur : List Deferred) (old : List Nat), ds = cur ++ old.flatMap markOf ∧ old.Nodup ∧ (∀ b ∈ old, s0 ≤ b ∧ OldOK w ok φ b) ∧ CurOK s0 L φ cur
theorem DefsOK.nil {s0 w ok L φ} : DefsOK s0 w ok L φ [] := ⟨[], [], rfl, List.nodup_nil, fun _ h => (List.not_mem_nil h).elim, .inl rfl⟩
theorem CurOK.keep {s0 w ok L φ w' ok' L' φ' ds} (k : Keeps w ok L φ w' ok' L' φ') (h : CurOK s0 L φ ds) : CurOK s0 L' φ' ds := by
  rcases h with h | ⟨b, h1, h2, h3, h4⟩
  · exact .inl h
  · obtain ⟨k1, k2⟩ := k.defer _ h1
    exact .inr ⟨b, k1, k2.trans h2, h3, h4⟩
theorem DefsOK.keep {s0 w ok L φ w' ok' L' φ' ds} (k : Keeps w ok L φ w' ok' L' φ') (ko : ∀ b, OldOK w ok φ b → OldOK w' ok' φ' b) (h : DefsOK s0 w ok L φ ds) : DefsOK s0 w' ok' L' φ' ds := by
  obtain ⟨cur, old, h1, h2, h3, h4⟩ := h
  exact ⟨cur, old, h1, h2, fun b hb => ⟨(h3 b hb).1, ko b (h3 b hb).2⟩, h4.keep k⟩
structure Sim (N : Nat) (L0 : Nat → Option Blk) (φ0 : Nat → Option Nat) (ok0 : Nat → Nat → Prop) (w0 : World) (st : St) (ok : Nat → Nat → Prop) (φ : Nat → Option Nat) (a : Act) (w : World) : Prop where
  slots : ∀ t, R w ok st.lk φ (st.get t) (a.tmps.getD t undef)
  size : a.tmps.size = N
  defers : DefsOK w0.heap.size w ok st.lk φ a.defers
  heap : HeapOK w ok st.lk φ
  kept : Keeps w0 ok0 L0 φ0 w ok st.lk φ
  frame : Fr (fun b => ∃ i, φ0 i = some b) w0 w
  own : ∀ id b, φ id = some b → (∃ i, φ0 i = some b) ∨ w0.heap.size ≤ b
  okDn : ∀ b o, ok b o → ok0 b o ∨ w0.heap.size ≤ b ∨ ∃ i, φ0 i = some b
theorem Sim.ev {N L0 φ0 ok0 w0 st ok φ a w} (h : Sim N L0 φ0 ok0 w0 st ok φ a w) (x : Operand) : R w ok st.lk φ (st.ev x) (a.eval x) := by
  cases x with
  | tmp t => exact h.slots t
  | const v => exact .pure _ _ (Rp_ofVal w ok v)
  | global g => exact .pure _ _ (.any _)
  | func f => exact .pure _ _ (.clo f 0 [] [] rfl (fun i a v hi => by simp at hi))
structure Ext (w0 : World) (X : Nat → Prop) (L : Nat → Option Blk) (ok : Nat → Nat → Prop) (φ : Nat → Option Nat) (w : World)
    (L' : Nat → Option Blk) (ok' : Nat → Nat → Prop) (φ' : Nat → Option Nat) (w' : World) : Prop where
  keeps : Keeps w ok L φ w' ok' L' φ'
  heap : HeapOK w' ok' L' φ'
  frame : (∀ id b, φ id = some b → X b ∨ w0.heap.size ≤ b) → Fr X w0 w → Fr X w0 w'
  own : (∀ id b, φ id = some b → X b ∨ w0.heap.size ≤ b) → w0.heap.size ≤ w.heap.size → ∀ id b, φ' id = some b → X b ∨ w0.heap.size ≤ b
  okDn : (∀ id b, φ id = some b → X b ∨ w0.heap.size ≤ b) → w0.heap.size ≤ w.heap.size → ∀ b o, ok' b o → ok b o ∨ w0.heap.size ≤ b ∨ X b
  still : ∀ b, OldOK w ok φ b → OldOK w' ok' φ' b
theorem Ext.refl {w0 X L ok φ w} (h : HeapOK w ok L φ) : Ext w0 X L ok φ w L ok φ w :=
  ⟨Keeps.refl .., h, fun _ h => h, fun h _ => h, fun _ _ _ _ h => .inl h, fun _ h => h⟩
theorem getD_set_same {α : Type} (a : Array α) (t : Nat) (v d : α) (h : t < a.size) : (a.setIfInBounds t v).getD t d = v := by
  simp [Array.getD, h]
theorem getD_set_other {α : Type} (a : Array α) (t u : Nat) (v d : α) (h : t ≠ u) : (a.setIfInBounds t v).getD u d = a.getD u d := by
  simp [Array.getD_eq_getD_getElem?, Array.getElem?_setIfInBounds_ne h]
def dstOK (N : Nat) : Option Nat → Bool
  | some t => decide (t < N)
  | none => true
theorem Sim.put {N L0 φ0 ok0 w0 st ok φ a w} (h : Sim N L0 φ0 ok0 w0 st ok φ a w) {dst : Option Nat} (hd : dstOK N dst = true) {v' : AV} {v : Value}
    {u : List (Nat × Blk)} {ok' φ' w'} (hx : Ext w0 (fun b => ∃ i, φ0 i = some b) st.lk ok φ w (st.upd u).lk ok' φ' w') (hv : R w' ok' (st.upd u).lk φ' v' v) :
    Sim N L0 φ0 ok0 w0 ((st.upd u).put dst v') ok' φ' (a.put dst v) w' := by
  have hL : ((st.upd u).put dst v').lk = (st.upd u).lk := by cases dst <;> rfl
  refine ⟨?_, ?_, ?_, ?_, by rw [hL]; exact h.kept.trans hx.keeps, hx.frame h.own h.frame, hx.own h.own h.frame.size, fun b o hb => ?_⟩
  · intro t
    rw [hL]
    cases dst with
    | none => exact (h.slots t).keep hx.keeps
    | some d =>
      have hd' : d < a.tmps.size := by rw [h.size]; simpa [dstOK] using hd
      by_cases e : d = t
      · subst e
        simp only [Act.put, getD_set_same _ _ _ _ hd', St.put, St.get, lkA, if_true]
        exact hv
      · simp only [Act.put, getD_set_other _ _ _ _ _ e, St.put, St.get, lkA, if_neg e]
        exact (h.slots t).keep hx.keeps
  · cases dst <;> simp [Act.put, h.size]
  · rw [hL]; cases dst <;> exact h.defers.keep hx.keeps hx.still
  · rw [hL]; exact hx.heap
  · rcases hx.okDn h.own h.frame.size b o hb with h1 | h1 | h1
    · exact h.okDn _ _ h1
    · exact .inr (.inl h1)
    · exact .inr (.inr h1)
theorem idx_lt {i n j sz : Nat} (h1 : i < n) (h2 : j < sz) : i * sz + j < n * sz := by
  have h3 : (i + 1) * sz ≤ n * sz := Nat.mul_le_mul_right _ h1
  rw [Nat.add_mul, Nat.one_mul] at h3
  omega
theorem RE.nil (w ok L φ sz) : RE w ok L φ sz [] [] := ⟨by simp, by simp, by simp⟩
theorem RE.keep {w ok L φ w' ok' L' φ' sz c vs} (k : ∀ a v, R w ok L φ a v → R w' ok' L' φ' a v) (h : RE w ok L φ sz c vs) : RE w' ok' L' φ' sz c vs :=
  ⟨h.1, h.2.1, fun i x j y hx hy => let ⟨v, h1, h2, h3⟩ := h.2.2 i x j y hx hy; ⟨v, h1, h2, k _ _ h3⟩⟩
theorem RE.append {w ok L φ sz c c' vs vs'} (h : RE w ok L φ sz c vs) (h' : RE w ok L φ sz c' vs') : RE w ok L φ sz (c ++ c') (vs ++ vs') := by
  obtain ⟨l1, s1, r1⟩ := h
  obtain ⟨l2, s2, r2⟩ := h'
  refine ⟨by simp [l1, l2, Nat.add_mul], fun i x hx => ?_, fun i x j y hx hy => ?_⟩
  · rw [List.getElem?_append] at hx
    split at hx
    · exact s1 _ _ hx
    · exact s2 _ _ hx
  · rw [List.getElem?_append] at hx
    split at hx
    · rename_i hlt
      have hj : j < sz := by rw [← s1 _ _ hx]; exact (List.getElem?_eq_some_iff.1 hy).1
      obtain ⟨v, h1, h2⟩ := r1 i x j y hx hy
      refine ⟨v, ?_, h2⟩
      rw [List.getElem?_append, if_pos (by rw [l1]; exact idx_lt hlt hj)]
      exact h1
    · rename_i hge
      obtain ⟨v, h1, h2⟩ := r2 _ x j y hx hy
      refine ⟨v, ?_, h2⟩
      have e : i * sz + j = vs.length + ((i - c.length) * sz + j) := by
        rw [l1, ← Nat.add_assoc, ← Nat.add_mul]
        congr 2
        omega
      rw [e, List.getElem?_append_right (by omega)]
      simpa using h1
theorem RE.sub {w ok L φ sz c vs} (h : RE w ok L φ sz c vs) (k n : Nat) : RE w ok L φ sz ((c.drop k).take n) ((vs.drop (k * sz)).take (n * sz)) := by
  obtain ⟨l1, s1, r1⟩ := h
  have get : ∀ (i : Nat) (x : AV), ((c.drop k).take n)[i]? = some x → i < n ∧ c[k + i]? = some x := by
    intro i x hx
    rw [List.getElem?_take] at hx
    split at hx
    · rw [List.getElem?_drop] at hx; exact ⟨by assumption, hx⟩
    · simp at hx
  refine ⟨?_, fun i x hx => s1 _ _ (get i x hx).2, fun i x j y hx hy => ?_⟩
  · simp only [List.length_take, List.length_drop, l1, ← Nat.sub_mul]
    rcases Nat.le_total n (c.length - k) with h | h
    · rw [Nat.min_eq_left h, Nat.min_eq_left (Nat.mul_le_mul_right _ h)]
    · rw [Nat.min_eq_right h, Nat.min_eq_right (Nat.mul_le_mul_right _ h)]
  · obtain ⟨hi, hx'⟩ := get i x hx
    obtain ⟨v, h1, h2⟩ := r1 _ x j y hx' hy
    have hj : j < sz := by rw [← s1 _ _ hx']; exact (List.getElem?_eq_some_iff.1 hy).1
    refine ⟨v, ?_, h2⟩
    rw [List.getElem?_take, if_pos (idx_lt hi hj), List.getElem?_drop]
    rw [show k * sz + (i * sz + j) = (k + i) * sz + j by rw [Nat.add_mul]; omega]
    exact h1
theorem RE.one {w ok L φ} {x : AV} {vs : List Value} (h1 : vs.length = x.cells.length) (h2 : ∀ (i : Nat) (v : Value), vs[i]? = some v → v.oneCell' = true)
    (h3 : ∀ (i : Nat) (a : AV) (v : Value), x.cells[i]? = some a → vs[i]? = some v → R w ok L φ a v) : RE w ok L φ x.cells.length [x] vs := by
  refine ⟨by simp [h1], fun i y hy => ?_, fun i y j z hy hz => ?_⟩
  · cases i with
    | zero => simp at hy; subst hy; rfl
    | succ n => simp at hy
  · cases i with
    | succ n => simp at hy
    | zero =>
      simp at hy; subst hy
      have hj : j < vs.length := by rw [h1]; exact (List.getElem?_eq_some_iff.1 hz).1
      exact ⟨vs[j], by simp, h2 j _ (List.getElem?_eq_getElem hj), h3 j _ _ hz (List.getElem?_eq_getElem hj)⟩
theorem RE.set {w ok L φ sz c vs x us} (h : RE w ok L φ sz c vs) (i : Nat) (hi : i < c.length) (hx : RE w ok L φ sz [x] us) :
    RE w ok L φ sz (c.set i x) (vs.take (i * sz) ++ (us ++ vs.drop (i * sz + us.length))) := by
  have e : c.set i x = (c.drop 0).take i ++ ([x] ++ (c.drop (i + 1)).take (c.length - (i + 1))) := by
    rw [List.set_eq_take_append_cons_drop, if_pos hi]
    simp
    rw [List.take_of_length_le (by simp)]
  have hu : us.length = sz := by have := hx.1; simpa using this
  have h1 := h.sub 0 i
  have h3 := h.sub (i + 1) (c.length - (i + 1))
  rw [e]
  have key := h1.append (hx.append h3)
  have e2 : (vs.drop ((i + 1) * sz)).take ((c.length - (i + 1)) * sz) = vs.drop (i * sz + us.length) := by
    rw [hu, Nat.add_mul, Nat.one_mul]
    refine List.take_of_length_le ?_
    rw [List.length_drop, h.1, Nat.sub_mul, Nat.add_mul, Nat.one_mul]
    exact Nat.le_refl _
  rw [e2] at key
  simpa using key
end Go.Abs
end
section
set_option linter.unusedVariables false
set_option linter.unusedSimpArgs false
namespace Go.Abs
def AV.un : AV → AV
  | .cond _ v => v
  | v => v
def isT (e : Bool) : Prop := e = true
def gimp (e : Bool) (p : Prop) : Prop := e = true → p
def impB (e f : Bool) : Prop := e = true → f = true
theorem isT_true : isT true = True := by simp [isT]
theorem gimp_T {e : Bool} : gimp e True = True := by simp [gimp]
theorem gimp_t {p : Prop} : gimp true p = p := by simp [gimp]
theorem gimp_f {p : Prop} : gimp false p = True := by simp [gimp]
theorem gimp_and {e : Bool} {p q : Prop} : gimp e (p ∧ q) = (gimp e p ∧ gimp e q) := by
  simp only [gimp]; exact propext ⟨fun h => ⟨fun he => (h he).1, fun he => (h he).2⟩, fun h he => ⟨h.1 he, h.2 he⟩⟩
theorem gimp_isT {e f : Bool} : gimp e (isT f) = impB e f := rfl
theorem gimp_gimp {e f : Bool} {p : Prop} : gimp e (gimp f p) = gimp (e && f) p := by cases e <;> cases f <;> simp [gimp]
theorem gimp_impB {e f g : Bool} : gimp e (impB f g) = impB (e && f) g := by cases e <;> cases f <;> simp [gimp, impB]
theorem impB_self {e : Bool} : impB e e = True := by simp [impB]
theorem impB_T {e : Bool} : impB e true = True := by simp [impB]
theorem impB_t {e : Bool} : impB true e = isT e := by simp [impB, isT]
theorem impB_f {e : Bool} : impB false e = True := by simp [impB]
theorem impB_and {e a b : Bool} : impB e (a && b) = (impB e a ∧ impB e b) := by cases e <;> cases a <;> cases b <;> simp [impB]
theorem impB_l {a b e : Bool} (h : impB a e = True) : impB (a && b) e = True := by
  have h : impB a e := by rw [h]; trivial
  exact eq_true fun hab => h (by simp at hab; exact hab.1)
theorem impB_r {a b e : Bool} (h : impB b e = True) : impB (a && b) e = True := by
  have h : impB b e := by rw [h]; trivial
  exact eq_true fun hab => h (by simp at hab; exact hab.2)
theorem impB_nl {a b e : Bool} (h : impB (!a) e = True) : impB (!(a || b)) e = True := by
  have h : impB (!a) e := by rw [h]; trivial
  exact eq_true fun hab => h (by simp at hab; simp [hab.1])
theorem impB_nr {a b e : Bool} (h : impB (!b) e = True) : impB (!(a || b)) e = True := by
  have h : impB (!b) e := by rw [h]; trivial
  exact eq_true fun hab => h (by simp at hab; simp [hab.2])
def AV.uc : AV → Prop
  | .cond e _ => isT e
  | _ => True
theorem R.un {w ok L φ a v} (h : R w ok L φ a v) (hu : a.uc) : R w ok L φ a.un v := by
  cases a <;> try exact h
  rename_i e a
  simp only [AV.uc, isT] at hu
  subst hu
  cases h with
  | pure _ _ h => cases h with | condT _ _ h => exact .pure _ _ h
  | condT _ _ h => exact h
def AV.one : AV → Bool
  | .bool _ | .int _ _ | .str _ | .list _ _ | .radr _ | .nils | .nil0 | .nilp | .nili | .nilf | .ref .. | .ptr .. | .it _ | .yld _ | .clo .. => true
  | _ => false
theorem R.one {w ok L φ a v} (h : R w ok L φ a v) (ho : a.one = true) : v.oneCell' = true ∧ v.cells = #[v] := by
  cases h with
  | pure _ _ h => cases h <;> simp [AV.one] at ho <;> simp [Value.oneCell', Value.cells]
  | ref => simp [Value.oneCell', Value.cells]
  | ptr => simp [Value.oneCell', Value.cells]
  | it => simp [Value.oneCell', Value.cells]
  | yld => simp [Value.oneCell', Value.cells]
  | mp => simp [AV.one] at ho
  | agg => simp [AV.one] at ho
  | tuple => simp [AV.one] at ho
  | clo => simp [Value.oneCell', Value.cells]
  | condT => simp [AV.one] at ho
def AV.shaped : AV → Bool
  | .any | .cond .. | .own .. => false
  | _ => true
theorem R.cells {w ok L φ a v} (h : R w ok L φ a v) (ho : a.shaped = true) : ∃ vs : List Value, v.cells = vs.toArray ∧ vs.length = a.cells.length ∧ (∀ (i : Nat) (x : AV) (u : Value), a.cells[i]? = some x → vs[i]? = some u → R w ok L φ x u) := by
  have key : ∀ (x : Value), R w ok L φ a x → x.cells = #[x] → a.cells = [a] → ∃ vs : List Value, x.cells = vs.toArray ∧ vs.length = a.cells.length ∧ (∀ (i : Nat) (y : AV) (u : Value), a.cells[i]? = some y → vs[i]? = some u → R w ok L φ y u) := by
    intro x hx h1 h2
    refine ⟨[x], h1, by rw [h2]; rfl, ?_⟩
    intro i y u hy hu
    rw [h2] at hy
    cases i with
    | zero => simp at hy hu; subst hy; subst hu; exact hx
    | succ n => simp at hy
  cases hh : h with
  | pure _ _ hp =>
    cases hp with
    | agg cs vs hl h1 h2 => exact ⟨vs, rfl, hl, fun i x u hx hu => .pure _ _ (h2 i x u hx hu)⟩
    | any => simp [AV.shaped] at ho
    | condT => simp [AV.shaped] at ho
    | condF => simp [AV.shaped] at ho
    | _ => exact key _ h rfl rfl
  | agg cs vs hl h1 h2 => exact ⟨vs, rfl, hl, h2⟩
  | condT => simp [AV.shaped] at ho
  | _ => exact key _ h rfl rfl
def inR : IntKind → Int → Prop
  | .i8, n => -128 ≤ n ∧ n ≤ 127
  | .i16, n => -32768 ≤ n ∧ n ≤ 32767
  | .i32, n => -2147483648 ≤ n ∧ n ≤ 2147483647
  | .i64, n => -9223372036854775808 ≤ n ∧ n ≤ 9223372036854775807
  | .u8, n => 0 ≤ n ∧ n ≤ 255
  | .u16, n => 0 ≤ n ∧ n ≤ 65535
  | .u32, n => 0 ≤ n ∧ n ≤ 4294967295
  | .u64, n => 0 ≤ n ∧ n ≤ 18446744073709551615
theorem wrap_inR {k : IntKind} {n : Int} (h : inR k n) : k.wrap n = n := by
  cases k <;> simp only [inR] at h <;> simp [IntKind.wrap, IntKind.bits, IntKind.signed] <;> omega
def arithV (wr : Bool) (k : IntKind) (n : Int) : AV :=
  match wr with
  | true => .int k (k.wrap n)
  | false => .int k n
def arithP (wr : Bool) (k : IntKind) (n : Int) : Prop :=
  match wr with
  | true => True
  | false => inR k n
theorem arith_ok {wr k n} (hp : arithP wr k n) : arithV wr k n = .int k (k.wrap n) := by
  cases wr
  · simp only [arithV, arithP] at hp ⊢; rw [wrap_inR hp]
  · rfl
def isBoolT (P : Program) (t : TypeId) : Bool := match P.underlying t with | some .bool => true | _ => false
def maxInt : Nat := 9223372036854775807
def evBin (P : Program) (wr : Bool) (op : BinOp) (t : TypeId) : AV → AV → Option (AV × Prop)
  | .int k a, .int k' b =>
    if k = k' then
      match op with
      | .add => some (arithV wr k (a + b), arithP wr k (a + b))
      | .sub => some (arithV wr k (a - b), arithP wr k (a - b))
      | .mul => some (arithV wr k (a * b), arithP wr k (a * b))
      | .quo => some (arithV wr k (a.tdiv b), b ≠ 0 ∧ arithP wr k (a.tdiv b))
      | .rem => some (.int k (a.tmod b), b ≠ 0)
      | .eql => some (.bool (decide (a = b)), True)
      | .neq => some (.bool (!decide (a = b)), True)
      | .lss => some (.bool (decide (a < b)), True)
      | .leq => some (.bool (decide (a ≤ b)), True)
      | .gtr => some (.bool (decide (b < a)), True)
      | .geq => some (.bool (decide (b ≤ a)), True)
      | _ => none
    else none
  | .str a, .str b =>
    match op with
    | .add => some (.str (a ++ b), a.length + b.length ≤ maxInt)
    | .eql => some (.bool (decide (a = b)), True)
    | .neq => some (.bool (!decide (a = b)), True)
    | .lss => some (.bool (Op.bytesLess a b), True)
    | .leq => some (.bool (Op.bytesLess a b || decide (a = b)), True)
    | .gtr => some (.bool (!(Op.bytesLess a b || decide (a = b))), True)
    | .geq => some (.bool (!Op.bytesLess a b), True)
    | _ => none
  | .bool a, .bool b =>
    if isBoolT P t then
      match op with
      | .eql => some (.bool (a == b), True)
      | .neq => some (.bool (a != b), True)
      | _ => none
    else none
  | _, _ => none
theorem run_equalIn_bool {P : Program} {w : World} (d : Nat) {t : TypeId} (hu : P.underlying t = some .bool) (a b : Bool) :
    (Op.equalIn (d + 1) t (.bool a) (.bool b)).run P w = .ok (a == b) w := by
  simp [Op.equalIn, run_underlying hu]
theorem run_equal_bool {P : Program} {w : World} {t : TypeId} (hu : P.underlying t = some .bool) (a b : Bool) :
    (Op.equal t (.bool a) (.bool b)).run P w = .ok (a == b) w := run_equalIn_bool 9999 hu a b
theorem evBin_ok {P wr op t x y v' p w ok L φ vx vy ox oy} (h : evBin P wr op t x y = some (v', p)) (hp : p) (hx : R w ok L φ x vx) (hy : R w ok L φ y vy) :
    ∃ v, ((do eqGuard op t ox oy vx vy; binOp op t vx vy) : Sem Value).run P w = .ok v w ∧ R w ok L φ v' v := by
  unfold evBin at h
  split at h
  · rename_i k a k' b
    obtain rfl : vx = .int k a := by cases hx with | pure _ _ hx => cases hx; rfl
    obtain rfl : vy = .int k' b := by cases hy with | pure _ _ hy => cases hy; rfl
    split at h
    · rename_i hk
      subst hk
      split at h <;> simp only [Option.some.injEq, reduceCtorEq, Prod.mk.injEq] at h
      · obtain ⟨rfl, rfl⟩ := h
        exact ⟨.int k (k.wrap (a + b)), by simp [eqGuard, binOp, Op.intArith], by rw [arith_ok hp]; exact .pure _ _ (.int _ _)⟩
      · obtain ⟨rfl, rfl⟩ := h
        exact ⟨.int k (k.wrap (a - b)), by simp [eqGuard, binOp, Op.intArith], by rw [arith_ok hp]; exact .pure _ _ (.int _ _)⟩
      · obtain ⟨rfl, rfl⟩ := h
        exact ⟨.int k (k.wrap (a * b)), by simp [eqGuard, binOp, Op.intArith], by rw [arith_ok hp]; exact .pure _ _ (.int _ _)⟩
      · obtain ⟨rfl, rfl⟩ := h
        exact ⟨.int k (k.wrap (a.tdiv b)), by simp [eqGuard, binOp, Op.intDiv, hp.1], by rw [arith_ok hp.2]; exact .pure _ _ (.int _ _)⟩
      · obtain ⟨rfl, rfl⟩ := h
        exact ⟨.int k (a.tmod b), by simp [eqGuard, binOp, Op.intDiv, hp], .pure _ _ (.int _ _)⟩
      all_goals obtain ⟨rfl, rfl⟩ := h
      all_goals refine ⟨_, ?_, .pure _ _ (.bool _)⟩
      all_goals simp [eqGuard, binOp, Op.intCmp]
      all_goals (first | rfl | (rw [Bool.eq_iff_iff]; simp))
    · simp at h
  · rename_i a b
    obtain rfl : vx = .string ⟨a.toArray⟩ := by cases hx with | pure _ _ hx => cases hx; rfl
    obtain rfl : vy = .string ⟨b.toArray⟩ := by cases hy with | pure _ _ hy => cases hy; rfl
    have hap : (ByteArray.mk a.toArray ++ ByteArray.mk b.toArray) = ⟨(a ++ b).toArray⟩ := by
      apply ByteArray.ext; simp
    have hs1 : (ByteArray.mk a.toArray).size = a.length := by simp [ByteArray.size]
    have hs2 : (ByteArray.mk b.toArray).size = b.length := by simp [ByteArray.size]
    split at h <;> simp only [Option.some.injEq, reduceCtorEq, Prod.mk.injEq] at h
    · obtain ⟨rfl, rfl⟩ := h
      refine ⟨.string ⟨(a ++ b).toArray⟩, ?_, .pure _ _ (.str _)⟩
      have hn : ¬ (IntKind.i64.max < ((a.length + b.length : Nat) : Int)) := by simp only [maxInt] at hp; simp [IntKind.max, IntKind.bits, IntKind.signed]; omega
      simp only [Int.natCast_add] at hn
      simp [eqGuard, binOp, Op.stringOp, hap, hs1, hs2]
      simp only [IntKind.max, IntKind.bits, IntKind.signed] at hn ⊢; simp at hn ⊢; omega
    all_goals obtain ⟨rfl, rfl⟩ := h
    all_goals refine ⟨_, ?_, .pure _ _ (.bool _)⟩
    all_goals simp [eqGuard, binOp, Op.stringOp]
    all_goals (first | rfl | (rw [Bool.eq_iff_iff]; simp))
  · rename_i a b
    obtain rfl : vx = .bool a := by cases hx with | pure _ _ hx => cases hx; rfl
    obtain rfl : vy = .bool b := by cases hy with | pure _ _ hy => cases hy; rfl
    split at h
    · rename_i hb
      have hu : P.underlying t = some .bool := by
        unfold isBoolT at hb
        split at hb
        · assumption
        · simp at hb
      split at h <;> simp only [Option.some.injEq, reduceCtorEq, Prod.mk.injEq] at h
      all_goals obtain ⟨rfl, rfl⟩ := h
      all_goals refine ⟨_, ?_, .pure _ _ (.bool _)⟩
      all_goals simp [eqGuard, binOp, run_equal_bool hu, bne]
    · simp at h
  · simp at h
def szT (P : Program) (t : TypeId) : Option Nat := (P.info? t).map (·.size)
def byT (P : Program) (t : TypeId) : Option Nat := (P.info? t).map (·.bytes)
def AV.ofZero : Value → AV
  | .agg cs => .agg (cs.toList.map AV.ofVal)
  | v => .ofVal v
def zT (P : Program) (t : TypeId) : Option AV := ((P.info? t).bind (·.zero)).map AV.ofZero
def aggT (P : Program) (t : TypeId) : Option Bool := (P.underlying t).map fun d => match d with | .struct _ | .array _ _ => true | _ => false
def oneT (P : Program) (t : TypeId) : Bool := match zT P t with | some z => z.cells.all AV.one | none => false
theorem run_sizeOf' {P : Program} {w : World} {t : TypeId} {n : Nat} (h : szT P t = some n) : (sizeOf t).run P w = .ok n w := by
  unfold szT at h
  simp only [Option.map_eq_some_iff] at h
  obtain ⟨i, hi, rfl⟩ := h
  simp [sizeOf, typeInfo, hi]
theorem run_isAgg' {P : Program} {w : World} {t : TypeId} {b : Bool} (h : aggT P t = some b) : (isAgg t).run P w = .ok b w := by
  unfold aggT at h
  simp only [Option.map_eq_some_iff] at h
  obtain ⟨d, hd, rfl⟩ := h
  cases d <;> simp [isAgg, run_underlying hd]
theorem Rp_ofZero (w : World) (ok : Nat → Nat → Prop) (v : Value) (h : ∀ (i : Nat) (u : Value), v.cells[i]? = some u → u.oneCell' = true) : Rp w ok (.ofZero v) v := by
  unfold AV.ofZero
  split
  · rename_i cs
    have := Rp.agg (w := w) (ok := ok) (cs.toList.map AV.ofVal) cs.toList (by simp) (fun i u hu => h i u (by simpa [Value.cells] using hu)) (fun i a u ha hu => by
      simp only [List.getElem?_map, hu, Option.map_some, Option.some.injEq] at ha
      subst ha; exact Rp_ofVal w ok u)
    simpa using this
  · exact Rp_ofVal w ok v
theorem ofVal_mark (v : Value) : notFz (.ofVal v) = true ∧ ∀ e, TyD (.ofVal v) e := by
  unfold AV.ofVal
  split <;> exact ⟨rfl, fun _ => trivial⟩
theorem ofZero_mark (v : Value) : notFz (.ofZero v) = true ∧ ∀ e, TyD (.ofZero v) e := by
  unfold AV.ofZero
  split
  · exact ⟨rfl, fun _ => trivial⟩
  · exact ofVal_mark v
theorem zT_mark {P : Program} {t : TypeId} {d : AV} (h : zT P t = some d) : notFz d = true ∧ ∀ e, TyD d e := by
  simp only [zT, Option.map_eq_some_iff] at h
  obtain ⟨u, _, rfl⟩ := h
  exact ofZero_mark u
def evUn (wr : Bool) (op : UnOp) : AV → Option (AV × Prop)
  | .bool b => match op with | .not => some (.bool (!b), True) | _ => none
  | .int k n => match op with | .neg => some (arithV wr k (0 - n), arithP wr k (0 - n)) | _ => none
  | _ => none
theorem evUn_ok {P wr op x v' p w ok L φ vx} (h : evUn wr op x = some (v', p)) (hp : p) (hx : R w ok L φ x vx) :
    ∃ v, (Op.unary op vx).run P w = .ok v w ∧ R w ok L φ v' v := by
  unfold evUn at h
  split at h
  · rename_i b
    obtain rfl : vx = .bool b := by cases hx with | pure _ _ hx => cases hx; rfl
    split at h <;> simp only [Option.some.injEq, reduceCtorEq, Prod.mk.injEq] at h
    obtain ⟨rfl, rfl⟩ := h
    exact ⟨_, by simp [Op.unary], .pure _ _ (.bool _)⟩
  · rename_i k n
    obtain rfl : vx = .int k n := by cases hx with | pure _ _ hx => cases hx; rfl
    split at h <;> simp only [Option.some.injEq, reduceCtorEq, Prod.mk.injEq] at h
    obtain ⟨rfl, rfl⟩ := h
    exact ⟨.int k (k.wrap (0 - n)), by simp [Op.unary, Op.intArith], by rw [arith_ok hp]; exact .pure _ _ (.int _ _)⟩
  · simp at h
def evConv (P : Program) (wr : Bool) (src dst : TypeId) (x : AV) : Option (AV × Prop) :=
  match P.underlying src, P.underlying dst with
  | some _, some (.int k) => match x with | .int _ n => some (arithV wr k n, arithP wr k n) | _ => none
  | some _, some .string => match x with
    | .int _ n => some (.str (Utf8.encode n).data.toList, True)
    | .str s => some (.str s, True)
    | _ => none
  | _, _ => none
theorem evConv_ok {P wr src dst x v' p w ok L φ vx} (h : evConv P wr src dst x = some (v', p)) (hp : p) (hx : R w ok L φ x vx) :
    ∃ v, (convert src dst vx).run P w = .ok v w ∧ R w ok L φ v' v := by
  unfold evConv at h
  split at h
  · rename_i d k hs hd
    split at h <;> simp only [Option.some.injEq, reduceCtorEq, Prod.mk.injEq] at h
    rename_i k' n
    obtain ⟨rfl, rfl⟩ := h
    obtain rfl : vx = .int k' n := by cases hx with | pure _ _ hx => cases hx; rfl
    refine ⟨.int k (k.wrap n), ?_, by rw [arith_ok hp]; exact .pure _ _ (.int _ _)⟩
    cases d <;> simp [convert, run_underlying hs, run_underlying hd, Conv.intToInt]
  · rename_i d hs hd
    split at h <;> simp only [Option.some.injEq, reduceCtorEq, Prod.mk.injEq] at h
    · rename_i k' n
      obtain ⟨rfl, rfl⟩ := h
      obtain rfl : vx = .int k' n := by cases hx with | pure _ _ hx => cases hx; rfl
      refine ⟨.string (Utf8.encode n), ?_, ?_⟩
      · cases d <;> simp [convert, run_underlying hs, run_underlying hd, Conv.intToString]
      · have := Rp.str (w := w) (ok := ok) (Utf8.encode n).data.toList
        exact .pure _ _ (by simpa using this)
    · rename_i s
      obtain ⟨rfl, rfl⟩ := h
      obtain rfl : vx = .string ⟨s.toArray⟩ := by cases hx with | pure _ _ hx => cases hx; rfl
      refine ⟨.string ⟨s.toArray⟩, ?_, .pure _ _ (.str _)⟩
      cases d <;> simp [convert, run_underlying hs, run_underlying hd]
  · simp at h
def evExtract (x : AV) (i : Nat) : Option (AV × Prop) :=
  match x with
  | .tuple vs => (vs[i]?).map fun v => (v, True)
  | .nxt more p r => match i with
    | 0 => some (.bool more, True)
    | 1 => some (.int .i64 p, more = true)
    | 2 => some (.int .i32 r, more = true)
    | _ => none
  | _ => none
theorem evExtract_ok {P x i v' p w ok L φ vx} (h : evExtract x i = some (v', p)) (hp : p) (hx : R w ok L φ x vx) :
    ∃ v, (Instr.extract vx i).run P w = .ok v w ∧ R w ok L φ v' v := by
  unfold evExtract at h
  split at h
  · rename_i vs
    simp only [Option.map_eq_some_iff, Prod.mk.injEq] at h
    obtain ⟨a, ha, rfl, rfl⟩ := h
    have hlt := (List.getElem?_eq_some_iff.1 ha).1
    cases hx with
    | pure _ _ hx =>
      cases hx with
      | tuple _ us hl h1 =>
        have hu : us[i]? = some us[i] := by simp
        refine ⟨us[i], by simp [Instr.extract, hu], .pure _ _ (h1 i _ _ ha hu)⟩
    | tuple _ us hl h1 =>
      have hu : us[i]? = some us[i] := by simp
      refine ⟨us[i], by simp [Instr.extract, hu], h1 i _ _ ha hu⟩
  · rename_i more q r
    cases hx with
    | pure _ _ hx =>
      split at h <;> simp only [Option.some.injEq, reduceCtorEq, Prod.mk.injEq] at h <;> obtain ⟨rfl, rfl⟩ := h
      · cases hx
        · exact ⟨_, by simp [Instr.extract], .pure _ _ (.bool _)⟩
        · exact ⟨_, by simp [Instr.extract], .pure _ _ (.bool _)⟩
      · subst hp; cases hx; exact ⟨_, by simp [Instr.extract], .pure _ _ (.int _ _)⟩
      · subst hp; cases hx; exact ⟨_, by simp [Instr.extract], .pure _ _ (.int _ _)⟩
  · simp at h
end Go.Abs
end
section
set_option linter.unusedVariables false
set_option linter.unusedSimpArgs false
namespace Go.Abs
def evIndex (P : Program) (t : TypeId) (x i : AV) : Option (AV × Prop) :=
  match i with
  | .int _ n =>
    match P.underlying t with
    | some .string => match x with
      | .str s => some (.int .u8 (s.getD n.toNat 0).toNat, 0 ≤ n ∧ n < s.length)
      | _ => none
    | some (.array len el) =>
      match x, szT P el, zT P el, aggT P el with
      | .agg cs, some sz, some d, some false => if sz = 1 then some (cs.getD n.toNat d, 0 ≤ n ∧ n < len ∧ cs.length = len) else none
      | .agg cs, some sz, some _, some true => some (.agg ((cs.drop (n.toNat * sz)).take sz), 0 ≤ n ∧ n < len ∧ cs.length = len * sz)
      | _, _, _, _ => none
    | _ => none
  | _ => none
theorem R.aggInv {w ok L φ cs v} (h : R w ok L φ (.agg cs) v) : ∃ vs : List Value, v = .agg vs.toArray ∧ vs.length = cs.length ∧
    (∀ (i : Nat) (v : Value), vs[i]? = some v → v.oneCell' = true) ∧ (∀ (i : Nat) (a : AV) (v : Value), cs[i]? = some a → vs[i]? = some v → R w ok L φ a v) := by
  cases h with
  | pure _ _ h => cases h with | agg _ vs hl h1 h2 => exact ⟨vs, rfl, hl, h1, fun i a v ha hv => .pure _ _ (h2 i a v ha hv)⟩
  | agg _ vs hl h1 h2 => exact ⟨vs, rfl, hl, h1, h2⟩
theorem R.aggSub {w ok L φ} {cs : List AV} {vs : List Value} (hl : vs.length = cs.length) (h1 : ∀ (i : Nat) (v : Value), vs[i]? = some v → v.oneCell' = true)
    (h2 : ∀ (i : Nat) (a : AV) (v : Value), cs[i]? = some a → vs[i]? = some v → R w ok L φ a v) (o n : Nat) :
    R w ok L φ (.agg ((cs.drop o).take n)) (.agg ((vs.drop o).take n).toArray) := by
  refine .agg _ _ (by simp [hl]) (fun i v hv => ?_) (fun i a v ha hv => ?_)
  · rw [List.getElem?_take] at hv
    split at hv
    · rw [List.getElem?_drop] at hv; exact h1 _ _ hv
    · simp at hv
  · rw [List.getElem?_take] at ha hv
    split at ha
    · rw [List.getElem?_drop] at ha hv
      rename_i hlt
      simp only [hlt, if_true] at hv
      exact h2 _ _ _ ha hv
    · simp at ha
theorem extract_toList' (vs : List Value) (o n : Nat) : (vs.toArray.extract o (o + n)) = ((vs.drop o).take n).toArray := by
  apply Array.ext'
  simp [List.extract_eq_take_drop]
theorem evIndex_ok {P t x i v' p w ok L φ vx vi} (h : evIndex P t x i = some (v', p)) (hp : p) (hx : R w ok L φ x vx) (hi : R w ok L φ i vi) :
    ∃ v, (Instr.index t vx vi).run P w = .ok v w ∧ R w ok L φ v' v := by
  unfold evIndex at h
  split at h
  · rename_i k n
    obtain rfl : vi = .int k n := by cases hi with | pure _ _ hi => cases hi; rfl
    split at h
    · rename_i hu
      split at h <;> simp only [Option.some.injEq, reduceCtorEq, Prod.mk.injEq] at h
      rename_i s
      obtain ⟨rfl, rfl⟩ := h
      obtain rfl : vx = .string ⟨s.toArray⟩ := by cases hx with | pure _ _ hx => cases hx; rfl
      obtain ⟨h0, h1⟩ := hp
      obtain ⟨m, rfl⟩ := Int.eq_ofNat_of_zero_le h0
      have hm : m < s.length := by omega
      refine ⟨.int .u8 (s.getD m 0).toNat, ?_, .pure _ _ (.int _ _)⟩
      have hsz : m < (ByteArray.mk s.toArray).size := by simpa [ByteArray.size] using hm
      have hg : (ByteArray.mk s.toArray)[m]? = some (s.getD m 0) := by
        rw [ByteArray.getElem?_lt' _ _ hsz]
        simp [ByteArray.getElem_eq_getElem_data, List.getD_eq_getElem?_getD, List.getElem?_eq_getElem hm]
      simp only [Instr.index, Sem.run_bind, asIntOf, Sem.run_pure, Result.andThen_ok, run_underlying hu]
      simp [hg]
    · rename_i len el hu
      split at h
      · rename_i cs sz d hsz hz hag
        split at h <;> simp only [Option.some.injEq, reduceCtorEq, Prod.mk.injEq] at h
        rename_i hs1
        subst hs1
        obtain ⟨rfl, rfl⟩ := h
        obtain ⟨h0, h1, h2⟩ := hp
        obtain ⟨vs, rfl, hl, ho, hr⟩ := hx.aggInv
        obtain ⟨m, rfl⟩ := Int.eq_ofNat_of_zero_le h0
        have hm : m < vs.length := by omega
        have hm' : m < cs.length := by omega
        refine ⟨vs[m], ?_, ?_⟩
        · have hlt : m < len := by omega
          simp [Instr.index, asIntOf, run_underlying hu, hlt, run_sizeOf' hsz, part, run_isAgg' hag, List.getElem?_eq_getElem hm]
        · have : cs.getD m d = cs[m] := by simp [List.getD_eq_getElem?_getD, List.getElem?_eq_getElem hm']
          simp only [Int.toNat_natCast]
          rw [this]
          exact hr m _ _ (List.getElem?_eq_getElem hm') (List.getElem?_eq_getElem hm)
      · rename_i cs sz d hsz hz hag
        simp only [Option.some.injEq, Prod.mk.injEq] at h
        obtain ⟨rfl, rfl⟩ := h
        obtain ⟨h0, h1, h2⟩ := hp
        obtain ⟨vs, rfl, hl, ho, hr⟩ := hx.aggInv
        obtain ⟨m, rfl⟩ := Int.eq_ofNat_of_zero_le h0
        refine ⟨.agg ((vs.drop (m * sz)).take sz).toArray, ?_, by simpa using R.aggSub hl ho hr (m * sz) sz⟩
        have hlt : m < len := by omega
        simp only [Instr.index, Sem.run_bind, asIntOf, Sem.run_pure, Result.andThen_ok, run_underlying hu]
        simp [hlt, run_sizeOf' hsz, part, run_isAgg' hag, extract_toList']
      · simp at h
    · simp at h
  · simp at h
def evField (P : Program) (t : TypeId) (x : AV) (f : Nat) : Option (AV × Prop) :=
  match P.underlying t, x with
  | some (.struct fields), .agg cs =>
    match fields[f]? with
    | some fd =>
      match aggT P fd.type, szT P fd.type with
      | some false, some _ => some (cs.getD fd.offset .any, fd.offset < cs.length)
      | some true, some n => some (.agg ((cs.drop fd.offset).take n), True)
      | _, _ => none
    | none => none
  | _, _ => none
theorem evField_ok {P t x f v' p w ok L φ vx} (h : evField P t x f = some (v', p)) (hp : p) (hx : R w ok L φ x vx) :
    ∃ v, (Instr.field t vx f).run P w = .ok v w ∧ R w ok L φ v' v := by
  unfold evField at h
  split at h
  · rename_i fields cs hu
    split at h
    · rename_i fd hf
      obtain ⟨vs, rfl, hl, ho, hr⟩ := hx.aggInv
      split at h <;> simp only [Option.some.injEq, reduceCtorEq, Prod.mk.injEq] at h
      · rename_i m hag hsz
        obtain ⟨rfl, rfl⟩ := h
        have hm : fd.offset < vs.length := by omega
        refine ⟨vs[fd.offset], ?_, ?_⟩
        · simp [Instr.field, run_underlying hu, hf, asAgg, part, run_isAgg' hag, List.getElem?_eq_getElem hm]
        · have : cs.getD fd.offset .any = cs[fd.offset] := by simp [List.getD_eq_getElem?_getD, List.getElem?_eq_getElem hp]
          rw [this]
          exact hr _ _ _ (List.getElem?_eq_getElem hp) (List.getElem?_eq_getElem hm)
      · rename_i n hag hsz
        obtain ⟨rfl, rfl⟩ := h
        refine ⟨.agg ((vs.drop fd.offset).take n).toArray, ?_, R.aggSub hl ho hr _ _⟩
        simp [Instr.field, run_underlying hu, hf, asAgg, part, run_isAgg' hag, run_sizeOf' hsz, extract_toList']
    · simp at h
  · simp at h
def evFieldAddr (P : Program) (t : TypeId) (x : AV) (f : Nat) : Option (AV × Prop) :=
  match P.underlying t with
  | some (.struct fields) =>
    match fields[f]? with
    | some fd =>
      match szT P fd.type with
      | some (_ + 1) =>
        match x with
        | .radr cs => some (.radr (cs.drop fd.offset), True)
        | .ptr id i j hw => some (.ptr id i (j + fd.offset) hw, True)
        | _ => none
      | _ => none
    | none => none
  | _ => none
theorem addr_add_plain (b o n : Nat) : (⟨b, o, none⟩ : Addr).add n = ⟨b, o + n, none⟩ := by
  unfold Addr.add; split <;> simp_all
theorem evFieldAddr_ok {P t x f v' p w ok L φ vx} (h : evFieldAddr P t x f = some (v', p)) (hp : p) (hx : R w ok L φ x vx) :
    ∃ v, (Instr.fieldAt t vx f).run P w = .ok v w ∧ R w ok L φ v' v := by
  unfold evFieldAddr at h
  split at h
  · rename_i fields hu
    split at h
    · rename_i fd hf
      split at h
      · rename_i n hsz
        split at h <;> simp only [Option.some.injEq, reduceCtorEq, Prod.mk.injEq] at h
        · rename_i cs
          obtain ⟨rfl, rfl⟩ := h
          cases hx with
          | pure _ _ hx =>
            cases hx with
            | radr _ b off cv h1 h2 =>
              refine ⟨.pointer (some ⟨b, off + fd.offset, none⟩), ?_, .pure _ _ (.radr _ b (off + fd.offset) (fun j => cv (fd.offset + j)) (fun j y hj => ?_) (fun j y hj => ?_))⟩
              · simp [Instr.fieldAt, run_underlying hu, hf, Instr.sureAddr, fieldPlace, run_sizeOf' hsz, addr_add_plain]
              · rw [List.getElem?_drop] at hj
                have := h1 _ _ hj
                rw [Nat.add_assoc]; exact this
              · rw [List.getElem?_drop] at hj; exact h2 _ _ hj
        · rename_i id i j hw
          obtain ⟨rfl, rfl⟩ := h
          cases hx with
          | pure _ _ hx => cases hx
          | ptr _ _ _ _ pa sz ro d c hL hle hh =>
            by_cases he : hw = c.length
            · obtain ⟨b, hb, rfl⟩ := hh he
              refine ⟨.pointer (some ⟨b, i * sz + j + fd.offset, none⟩), ?_, ?_⟩
              · simp [Instr.fieldAt, run_underlying hu, hf, Instr.sureAddr, fieldPlace, run_sizeOf' hsz, addr_add_plain]
              · exact .ptr id i (j + fd.offset) hw _ sz ro d c hL hle (fun _ => ⟨b, hb, by rw [Nat.add_assoc]⟩)
            · refine ⟨.pointer (some (pa.add fd.offset)), ?_, .ptr id i (j + fd.offset) hw _ sz ro d c hL hle (fun e => absurd e he)⟩
              simp [Instr.fieldAt, run_underlying hu, hf, Instr.sureAddr, fieldPlace, run_sizeOf' hsz]
      · simp at h
    · simp at h
  · simp at h
theorem Rp.listInv {w ok sz l v} (h : Rp w ok (.list sz l) v) : ∃ a cap, v = .slice a l.length cap ∧ l.length ≤ cap ∧ cap ≤ maxLen ∧
    (l = [] ∨ ∃ b off, ∃ cv : Nat → Nat → Value, a = some ⟨b, off, none⟩ ∧
      (∀ (i : Nat) (x : AV), l[i]? = some x → x.cells.length = sz) ∧
      (∀ (i : Nat) (x : AV) (j : Nat) (y : AV), l[i]? = some x → x.cells[j]? = some y →
        ok b (off + i * sz + j) ∧ w.cell? ⟨b, off + i * sz + j, none⟩ = some (cv i j) ∧ (cv i j).oneCell' = true) ∧
      (∀ (i : Nat) (x : AV) (j : Nat) (y : AV), l[i]? = some x → x.cells[j]? = some y → Rp w ok y (cv i j))) := by
  cases h with
  | list0 _ a cap hm => exact ⟨a, cap, rfl, Nat.zero_le _, hm, .inl rfl⟩
  | list _ _ b off cap cv hcap hm hsz h1 h2 => exact ⟨_, cap, rfl, hcap, hm, .inr ⟨b, off, cv, rfl, hsz, h1, h2⟩⟩
theorem R.listInv {w ok L φ sz l v} (h : R w ok L φ (.list sz l) v) : Rp w ok (.list sz l) v := by
  cases h with | pure _ _ h => exact h
def evIndexAddr (P : Program) (t : TypeId) (x i : AV) : Option (AV × Prop) :=
  match P.underlying t, x, i with
  | some (.slice el), .list sz l, .int _ n =>
    match zT P el with
    | some d => some (.radr (l.getD n.toNat d).cells, 0 ≤ n ∧ n < l.length ∧ szT P el = some sz)
    | none => none
  | _, _, _ => none
theorem evIndexAddr_ok {P t x i v' p w ok L φ vx vi} (h : evIndexAddr P t x i = some (v', p)) (hp : p) (hx : R w ok L φ x vx) (hi : R w ok L φ i vi) :
    ∃ v, (Instr.indexAt t vx vi).run P w = .ok v w ∧ R w ok L φ v' v := by
  unfold evIndexAddr at h
  split at h
  · rename_i el sz l k n hu
    obtain rfl : vi = .int k n := by cases hi with | pure _ _ hi => cases hi; rfl
    split at h <;> simp only [Option.some.injEq, reduceCtorEq, Prod.mk.injEq] at h
    rename_i d hd
    obtain ⟨rfl, rfl⟩ := h
    obtain ⟨h0, h1, hsz⟩ := hp
    obtain ⟨m, rfl⟩ := Int.eq_ofNat_of_zero_le h0
    have hm : m < l.length := by omega
    obtain ⟨a, cap, rfl, hcap, hmx, hh⟩ := hx.listInv.listInv
    rcases hh with rfl | ⟨b, off, cv, rfl, hs, hc1, hc2⟩
    · simp at hm
    · have hg : l[m]? = some l[m] := List.getElem?_eq_getElem hm
      have hgd : l.getD m d = l[m] := by simp [List.getD_eq_getElem?_getD, hg]
      refine ⟨.pointer (some ⟨b, off + m * sz, none⟩), ?_, .pure _ _ ?_⟩
      · simp [Instr.indexAt, asIntOf, run_underlying hu, hm, run_sizeOf' hsz, addr_add_plain]
      · simp only [Int.toNat_natCast]
        rw [hgd]
        exact .radr _ b (off + m * sz) (cv m) (fun j y hj => hc1 m _ j y hg hj) (fun j y hj => hc2 m _ j y hg hj)
  · simp at h
def boundA (d : Int) : Option AV → Option Int
  | none => some d
  | some (.int _ n) => some n
  | some _ => none
def evSlice (P : Program) (t : TypeId) (x : AV) (lo hi mx : Option AV) : Option (AV × Prop) :=
  match x with
  | .str s =>
    match P.underlying t, mx with
    | some .string, none =>
      match lo, hi with
      | none, none => some (.str s, True)
      | some (.int _ l), none => some (.str (s.drop l.toNat), 0 ≤ l ∧ l ≤ s.length)
      | none, some (.int _ h) => some (.str (s.take h.toNat), 0 ≤ h ∧ h ≤ s.length)
      | some (.int _ l), some (.int _ h) => some (.str ((s.take h.toNat).drop l.toNat), 0 ≤ l ∧ l ≤ h ∧ h ≤ s.length)
      | _, _ => none
    | _, _ => none
  | .list sz xs =>
    match P.underlying t with
    | some (.slice el) =>
      match lo, hi, mx with
      | none, none, none => some (.list sz xs, szT P el = some sz)
      | some (.int _ l), none, none => some (.list sz (xs.drop l.toNat), szT P el = some sz ∧ 0 ≤ l ∧ l ≤ xs.length)
      | none, some (.int _ h), none => some (.list sz (xs.take h.toNat), szT P el = some sz ∧ 0 ≤ h ∧ h ≤ xs.length)
      | some (.int _ l), some (.int _ h), none => some (.list sz ((xs.take h.toNat).drop l.toNat), szT P el = some sz ∧ 0 ≤ l ∧ l ≤ h ∧ h ≤ xs.length)
      | none, some (.int _ h), some (.int _ m) => some (bif decide (m = 0) then .nil0 else .list sz (xs.take h.toNat), szT P el = some sz ∧ 0 ≤ h ∧ h ≤ m ∧ m ≤ xs.length)
      | _, _, _ => none
    | _ => none
  | .ptr id i j hw =>
    match P.underlying t with
    | some (.array n el) =>
      match lo, hi, mx with
      | none, none, none => some (.ref id 0 n hw, i = 0 ∧ j = 0 ∧ (szT P el).isSome = true ∧ hw = n ∧ n ≤ maxInt)
      | _, _, _ => none
    | _ => none
  | _ => none
theorem Rp.sub {w ok sz l a n cap} (h : Rp w ok (.list sz l) (.slice a n cap)) (lo hi m : Nat) (h1 : lo ≤ hi) (h2 : hi ≤ l.length) (h3 : hi ≤ m) (h4 : m ≤ cap) :
    Rp w ok (.list sz ((l.take hi).drop lo)) (.slice (if m = lo then a else a.map (·.add (lo * sz))) (hi - lo) (m - lo)) := by
  obtain ⟨a', cap', hv, hcap, hmx, hh⟩ := h.listInv
  cases hv
  have hlen : ((l.take hi).drop lo).length = hi - lo := by simp; omega
  by_cases he : lo = hi
  · subst he
    have : (l.take lo).drop lo = [] := List.eq_nil_of_length_eq_zero (by rw [hlen]; omega)
    rw [this]
    simp only [Nat.sub_self]
    exact .list0 sz _ _ (by omega)
  · rcases hh with rfl | ⟨b, off, cv, rfl, hs, hc1, hc2⟩
    · simp at h2; omega
    · rw [if_neg (by omega)]
      simp only [Option.map_some, addr_add_plain]
      have hget : ∀ (i : Nat) (x : AV), ((l.take hi).drop lo)[i]? = some x → l[lo + i]? = some x := by
        intro i x hx
        rw [List.getElem?_drop, List.getElem?_take] at hx
        split at hx
        · exact hx
        · simp at hx
      have key := Rp.list (w := w) (ok := ok) sz ((l.take hi).drop lo) b (off + lo * sz) (m - lo) (fun i j => cv (lo + i) j)
        (by rw [hlen]; omega) (by omega) (fun i x hx => hs _ _ (hget i x hx))
        (fun i x j y hx hy => by
          have := hc1 _ _ j y (hget i x hx) hy
          rw [show off + lo * sz + i * sz + j = off + (lo + i) * sz + j by rw [Nat.add_mul]; omega]
          exact this)
        (fun i x j y hx hy => hc2 _ _ j y (hget i x hx) hy)
      rw [hlen] at key
      exact key
theorem evSlice_ok {P t x lo hi mx v' p w ok L φ vx vlo vhi vmx} (hhp : HeapOK w ok L φ) (h : evSlice P t x lo hi mx = some (v', p)) (hp : p) (hx : R w ok L φ x vx)
    (hlo : ∀ k n, lo = some (.int k n) → vlo = some (.int k n)) (hlo' : lo = none → vlo = none)
    (hhi : ∀ k n, hi = some (.int k n) → vhi = some (.int k n)) (hhi' : hi = none → vhi = none)
    (hmx : ∀ k n, mx = some (.int k n) → vmx = some (.int k n)) (hmx' : mx = none → vmx = none) :
    ∃ v, (Instr.sliceAt t vx vlo vhi vmx).run P w = .ok v w ∧ R w ok L φ v' v := by
  unfold evSlice at h
  split at h
  · rename_i s
    obtain rfl : vx = .string ⟨s.toArray⟩ := by cases hx with | pure _ _ hx => cases hx; rfl
    have hsz : (ByteArray.mk s.toArray).size = s.length := by simp [ByteArray.size]
    have hex : ∀ a b, (ByteArray.mk s.toArray).extract a b = ⟨((s.take b).drop a).toArray⟩ := by
      intro a b
      apply ByteArray.ext
      simp [ByteArray.data_extract, List.extract_eq_take_drop, List.drop_take]
    split at h
    · rename_i hu
      obtain rfl := hmx' rfl
      split at h <;> simp only [Option.some.injEq, reduceCtorEq, Prod.mk.injEq] at h
      · obtain ⟨rfl, rfl⟩ := h
        obtain rfl := hlo' rfl; obtain rfl := hhi' rfl
        refine ⟨.string ⟨s.toArray⟩, ?_, .pure _ _ (.str _)⟩
        simp [Instr.sliceAt, Instr.slice, run_underlying hu, Instr.sliceBounds, hex, hsz]
      · rename_i k l
        obtain ⟨rfl, rfl⟩ := h
        obtain rfl := hlo _ _ rfl; obtain rfl := hhi' rfl
        obtain ⟨h0, h1⟩ := hp
        refine ⟨.string ⟨(s.drop l.toNat).toArray⟩, ?_, .pure _ _ (.str _)⟩
        simp [Instr.sliceAt, Instr.slice, run_underlying hu, Instr.sliceBounds, hex, hsz, run_sliceBound _ _ _ _ _ h0 h1]
      · rename_i k hh
        obtain ⟨rfl, rfl⟩ := h
        obtain rfl := hlo' rfl; obtain rfl := hhi _ _ rfl
        obtain ⟨h0, h1⟩ := hp
        refine ⟨.string ⟨(s.take hh.toNat).toArray⟩, ?_, .pure _ _ (.str _)⟩
        simp [Instr.sliceAt, Instr.slice, run_underlying hu, Instr.sliceBounds, hex, hsz, run_sliceBound _ _ _ _ _ h0 h1]
      · rename_i k l k' hh
        obtain ⟨rfl, rfl⟩ := h
        obtain rfl := hlo _ _ rfl; obtain rfl := hhi _ _ rfl
        obtain ⟨h0, h1, h2⟩ := hp
        have h3 : l ≤ (hh.toNat : Nat) := by omega
        have h4 : (0 : Int) ≤ hh := by omega
        refine ⟨.string ⟨((s.take hh.toNat).drop l.toNat).toArray⟩, ?_, .pure _ _ (.str _)⟩
        simp [Instr.sliceAt, Instr.slice, run_underlying hu, Instr.sliceBounds, hex, hsz, run_sliceBound _ _ _ _ _ h4 h2, run_sliceBound _ _ _ _ _ h0 h3]
    · simp at h
  · rename_i sz xs
    split at h
    · rename_i el hu
      obtain ⟨a, cap, rfl, hcap, hmxl, hh⟩ := hx.listInv.listInv
      have sub := fun lo hi m h1 h2 h3 h4 => Rp.sub (lo := lo) (hi := hi) (m := m) hx.listInv h1 h2 h3 h4
      split at h <;> simp only [Option.some.injEq, reduceCtorEq, Prod.mk.injEq] at h
      · obtain ⟨rfl, hsz⟩ := h
        subst hsz
        obtain rfl := hlo' rfl; obtain rfl := hhi' rfl; obtain rfl := hmx' rfl
        refine ⟨_, ?_, .pure _ _ (by simpa using sub 0 xs.length cap (Nat.zero_le _) (Nat.le_refl _) hcap (Nat.le_refl _))⟩
        simp [Instr.sliceAt, Instr.slice, run_underlying hu, Instr.sliceBounds, run_sizeOf' hp]
      · rename_i k l
        obtain ⟨rfl, rfl⟩ := h
        obtain rfl := hlo _ _ rfl; obtain rfl := hhi' rfl; obtain rfl := hmx' rfl
        obtain ⟨hsz, h0, h1⟩ := hp
        refine ⟨_, ?_, .pure _ _ (by simpa using sub l.toNat xs.length cap (by omega) (Nat.le_refl _) hcap (Nat.le_refl _))⟩
        simp [Instr.sliceAt, Instr.slice, run_underlying hu, Instr.sliceBounds, run_sizeOf' hsz, run_sliceBound _ _ _ _ _ h0 h1]
      · rename_i k hh'
        obtain ⟨rfl, rfl⟩ := h
        obtain rfl := hlo' rfl; obtain rfl := hhi _ _ rfl; obtain rfl := hmx' rfl
        obtain ⟨hsz, h0, h1⟩ := hp
        have h2 : hh' ≤ (cap : Nat) := by omega
        refine ⟨_, ?_, .pure _ _ (by simpa using sub 0 hh'.toNat cap (by omega) (by omega) (by omega) (Nat.le_refl _))⟩
        simp [Instr.sliceAt, Instr.slice, run_underlying hu, Instr.sliceBounds, run_sizeOf' hsz, run_sliceBound _ _ _ _ _ h0 h2]
      · rename_i k l k' hh'
        obtain ⟨rfl, rfl⟩ := h
        obtain rfl := hlo _ _ rfl; obtain rfl := hhi _ _ rfl; obtain rfl := hmx' rfl
        obtain ⟨hsz, h0, h1, h2⟩ := hp
        have h3 : hh' ≤ (cap : Nat) := by omega
        have h4 : l ≤ (hh'.toNat : Nat) := by omega
        have h5 : (0 : Int) ≤ hh' := by omega
        refine ⟨_, ?_, .pure _ _ (by simpa using sub l.toNat hh'.toNat cap (by omega) (by omega) (by omega) (Nat.le_refl _))⟩
        simp [Instr.sliceAt, Instr.slice, run_underlying hu, Instr.sliceBounds, run_sizeOf' hsz, run_sliceBound _ _ _ _ _ h5 h3, run_sliceBound _ _ _ _ _ h0 h4]
      · rename_i k hh' k' m
        obtain ⟨rfl, rfl⟩ := h
        obtain rfl := hlo' rfl; obtain rfl := hhi _ _ rfl; obtain rfl := hmx _ _ rfl
        obtain ⟨hsz, h0, h1, h2⟩ := hp
        have h3 : m ≤ (cap : Nat) := by omega
        have h4 : hh' ≤ (m.toNat : Nat) := by omega
        have h5 : (0 : Int) ≤ m := by omega
        have key := sub 0 hh'.toNat m.toNat (by omega) (by omega) (by omega) (by omega)
        refine ⟨.slice (if m.toNat = 0 then a else a.map (·.add (0 * sz))) (hh'.toNat - 0) (m.toNat - 0), ?_, .pure _ _ ?_⟩
        · simp [Instr.sliceAt, Instr.slice, run_underlying hu, Instr.sliceBounds, run_sizeOf' hsz, run_sliceBound _ _ _ _ _ h5 h3, run_sliceBound _ _ _ _ _ h0 h4]
        · by_cases hm0 : m = 0
          · subst hm0
            obtain rfl : hh' = 0 := by omega
            simp only [decide_true, cond_true]
            exact .nil0 _
          · simp only [decide_eq_false hm0, cond_false]
            simpa using key
    · simp at h
  · rename_i id i j hw
    split at h
    · rename_i n el hu
      split at h <;> simp only [Option.some.injEq, reduceCtorEq, Prod.mk.injEq] at h
      obtain ⟨rfl, rfl⟩ := h
      obtain rfl := hlo' rfl; obtain rfl := hhi' rfl; obtain rfl := hmx' rfl
      obtain ⟨rfl, rfl, hsz0, hw1, hmi⟩ := hp
      obtain ⟨sz', hsz⟩ := Option.isSome_iff_exists.1 hsz0
      cases hx with
      | pure _ _ h => cases h
      | ptr _ _ _ _ pa sz ro d c hL hle hr =>
        have hmi' : n ≤ maxLen := by simpa [maxLen, maxInt] using hmi
        refine ⟨.slice (some pa) n n, ?_, .ref id 0 n hw _ _ _ sz ro d c hL hle (fun e => ?_)⟩
        · simp [Instr.sliceAt, run_underlying hu, Instr.sureAddr, Instr.sliceBounds, run_sizeOf' hsz, Addr.add]
        · obtain ⟨b, hb, rfl⟩ := hr e
          refine ⟨by omega, .inr ⟨b, n, _, hb, rfl, Nat.le_refl _, hmi', .inr ⟨by simp, ?_⟩⟩⟩
          rcases hhp.blk id sz ro d c hL with ⟨h1, _⟩ | ⟨b', vs, rest, e', lo', hi', h1, h2, h3, h4⟩
          · rw [hb] at h1; cases h1
          · rw [hb] at h1; cases h1
            refine ⟨_, _, _, h2, ?_⟩
            have e2 : n * sz = vs.length := by rw [h4.1, ← e, hw1]
            simp [e2]
    · simp at h
  · simp at h
def evLen (P : Program) (t : TypeId) (x : AV) : Option (AV × Prop) :=
  match P.underlying t with
  | some .string => match x with | .str s => some (.int .i64 s.length, True) | _ => none
  | some (.slice _) => match x with | .list _ l => some (.int .i64 l.length, True) | .nils => some (.int .i64 0, True) | .nil0 => some (.int .i64 0, True) | _ => none
  | some (.array n _) => some (.int .i64 n, True)
  | _ => none
theorem evLen_ok {P t ty x v' p w ok L φ vx} (h : evLen P t x = some (v', p)) (hp : p) (hx : R w ok L φ x vx) :
    ∃ v, (Builtin.len_ #[t] ty #[vx]).run P w = .ok v w ∧ R w ok L φ v' v := by
  unfold evLen at h
  split at h
  · rename_i hu
    split at h <;> simp only [Option.some.injEq, reduceCtorEq, Prod.mk.injEq] at h
    obtain ⟨rfl, rfl⟩ := h
    rename_i s
    obtain rfl : vx = .string ⟨s.toArray⟩ := by cases hx with | pure _ _ hx => cases hx; rfl
    have hsz : (ByteArray.mk s.toArray).size = s.length := by simp [ByteArray.size]
    exact ⟨_, by simp [Builtin.len_, run_underlying hu, hsz, goInt], .pure _ _ (.int _ _)⟩
  · rename_i e hu
    split at h <;> simp only [Option.some.injEq, reduceCtorEq, Prod.mk.injEq] at h <;> obtain ⟨rfl, rfl⟩ := h
    · rename_i sz l
      obtain ⟨a, cap, rfl, hcap, hmx, hh⟩ := hx.listInv.listInv
      exact ⟨_, by simp [Builtin.len_, run_underlying hu, goInt], .pure _ _ (.int _ _)⟩
    · obtain rfl : vx = .slice none 0 0 := by cases hx with | pure _ _ hx => cases hx; rfl
      exact ⟨_, by simp [Builtin.len_, run_underlying hu, goInt], .pure _ _ (.int _ _)⟩
    · obtain ⟨a0, rfl⟩ : ∃ a0, vx = .slice a0 0 0 := by cases hx with | pure _ _ hx => cases hx; exact ⟨_, rfl⟩
      exact ⟨_, by simp [Builtin.len_, run_underlying hu, goInt], .pure _ _ (.int _ _)⟩
  · rename_i n e hu
    simp only [Option.some.injEq, Prod.mk.injEq] at h
    obtain ⟨rfl, rfl⟩ := h
    exact ⟨_, by simp [Builtin.len_, run_underlying hu, goInt], .pure _ _ (.int _ _)⟩
  · simp at h
def evMax (x y : AV) : Option (AV × Prop) :=
  match x, y with
  | .int k a, .int _ b => some (.int k (max a b), True)
  | _, _ => none
def evMin (x y : AV) : Option (AV × Prop) :=
  match x, y with
  | .int k a, .int _ b => some (.int k (min a b), True)
  | _, _ => none
theorem evMax_ok {P t ty x y v' p w ok L φ vx vy} (h : evMax x y = some (v', p)) (hp : p) (hx : R w ok L φ x vx) (hy : R w ok L φ y vy) :
    ∃ v, (Builtin.max_ t ty #[vx, vy]).run P w = .ok v w ∧ R w ok L φ v' v := by
  unfold evMax at h
  split at h
  · rename_i k a k' b
    simp only [Option.some.injEq, Prod.mk.injEq] at h
    obtain ⟨rfl, rfl⟩ := h
    obtain rfl : vx = .int k a := by cases hx with | pure _ _ hx => cases hx; rfl
    obtain rfl : vy = .int k' b := by cases hy with | pure _ _ hy => cases hy; rfl
    refine ⟨.int k (max a b), ?_, .pure _ _ (.int _ _)⟩
    simp [Builtin.max_, Builtin.max2]
    omega
  · simp at h
theorem evMin_ok {P t ty x y v' p w ok L φ vx vy} (h : evMin x y = some (v', p)) (hp : p) (hx : R w ok L φ x vx) (hy : R w ok L φ y vy) :
    ∃ v, (Builtin.min_ t ty #[vx, vy]).run P w = .ok v w ∧ R w ok L φ v' v := by
  unfold evMin at h
  split at h
  · rename_i k a k' b
    simp only [Option.some.injEq, Prod.mk.injEq] at h
    obtain ⟨rfl, rfl⟩ := h
    obtain rfl : vx = .int k a := by cases hx with | pure _ _ hx => cases hx; rfl
    obtain rfl : vy = .int k' b := by cases hy with | pure _ _ hy => cases hy; rfl
    refine ⟨.int k (min a b), ?_, .pure _ _ (.int _ _)⟩
    simp [Builtin.min_, Builtin.min2]
    omega
  · simp at h
def setAt (cs : List AV) (o : Nat) (vs : List AV) : List AV := cs.take o ++ (vs ++ cs.drop (o + vs.length))
def fillA (place : Nat → Option (Nat × Nat)) : List AV → List (Nat × AV) → Option (List AV)
  | cs, [] => some cs
  | cs, (i, v) :: rest =>
    match place i with
    | some (o, n) => if v.shaped = true ∧ v.cells.length = n ∧ o + n ≤ cs.length then fillA place (setAt cs o v.cells) rest else none
    | none => none
def placesL (P : Program) : List Field → Option (List (Nat × Nat))
  | [] => some []
  | f :: r => match szT P f.type, placesL P r with
    | some n, some ps => some ((f.offset, n) :: ps)
    | _, _ => none
theorem run_places {P : Program} {w : World} : ∀ {fs : List Field} {ps : List (Nat × Nat)}, placesL P fs = some ps →
    ((fs.mapM fun f => do pure (f.offset, ← sizeOf f.type) : Sem (List (Nat × Nat))).run P w = .ok ps w)
  | [], ps, h => by simp [placesL] at h; subst h; simp
  | f :: r, ps, h => by
    simp only [placesL] at h
    split at h
    · rename_i n ps' hn hr
      simp only [Option.some.injEq] at h
      subst h
      simp only [List.mapM_cons, Sem.run_bind, run_sizeOf' hn, Result.andThen_ok, run_places hr, Sem.run_pure]
    · simp at h
def RC (w : World) (ok : Nat → Nat → Prop) (L : Nat → Option Blk) (φ : Nat → Option Nat) (cs : List AV) (vs : List Value) : Prop :=
  vs.length = cs.length ∧ (∀ (i : Nat) (v : Value), vs[i]? = some v → v.oneCell' = true) ∧ ∀ (i : Nat) (a : AV) (v : Value), cs[i]? = some a → vs[i]? = some v → R w ok L φ a v
theorem RC.append {w ok L φ cs cs' vs vs'} (h : RC w ok L φ cs vs) (h' : RC w ok L φ cs' vs') : RC w ok L φ (cs ++ cs') (vs ++ vs') := by
  obtain ⟨l1, o1, r1⟩ := h
  obtain ⟨l2, o2, r2⟩ := h'
  refine ⟨by simp [l1, l2], fun i v hv => ?_, fun i a v ha hv => ?_⟩
  · rw [List.getElem?_append] at hv
    split at hv
    · exact o1 _ _ hv
    · exact o2 _ _ hv
  · rw [List.getElem?_append] at ha hv
    split at ha
    · rw [if_pos (by omega)] at hv; exact r1 _ _ _ ha hv
    · rw [if_neg (by omega), l1] at hv; exact r2 _ _ _ ha hv
theorem RC.take {w ok L φ cs vs} (h : RC w ok L φ cs vs) (n : Nat) : RC w ok L φ (cs.take n) (vs.take n) := by
  obtain ⟨l1, o1, r1⟩ := h
  refine ⟨by simp [l1], fun i v hv => ?_, fun i a v ha hv => ?_⟩
  · rw [List.getElem?_take] at hv; split at hv; exact o1 _ _ hv; simp at hv
  · rw [List.getElem?_take] at ha hv
    split at ha
    · rename_i hlt; simp only [hlt, if_true] at hv; exact r1 _ _ _ ha hv
    · simp at ha
theorem RC.drop {w ok L φ cs vs} (h : RC w ok L φ cs vs) (n : Nat) : RC w ok L φ (cs.drop n) (vs.drop n) := by
  obtain ⟨l1, o1, r1⟩ := h
  refine ⟨by simp [l1], fun i v hv => ?_, fun i a v ha hv => ?_⟩
  · rw [List.getElem?_drop] at hv; exact o1 _ _ hv
  · rw [List.getElem?_drop] at ha hv; exact r1 _ _ _ ha hv
theorem RC.setAt {w ok L φ cs vs ds us} (h : RC w ok L φ cs vs) (h' : RC w ok L φ ds us) (o : Nat) :
    RC w ok L φ (setAt cs o ds) (vs.take o ++ (us ++ vs.drop (o + us.length))) := by
  unfold Abs.setAt
  rw [h'.1]
  exact (h.take o).append (h'.append (h.drop _))
theorem R.rc {w ok L φ a v} (h : R w ok L φ a v) (hs : a.shaped = true) (ho : ∀ u ∈ v.cells, u.oneCell' = true) :
    RC w ok L φ a.cells v.cells.toList := by
  obtain ⟨vs, e, hl, hr⟩ := h.cells hs
  rw [e] at ho ⊢
  exact ⟨hl, fun i u hu => ho u (by simpa using List.mem_of_getElem? hu), hr⟩
def AV.flat : AV → Bool
  | .any | .cond .. | .own .. | .tuple _ | .nxt .. | .iface .. | .mp _ => false
  | _ => true
theorem AV.flat_shaped {a : AV} (h : a.flat = true) : a.shaped = true := by cases a <;> simp_all [AV.flat, AV.shaped]
theorem R.flat {w ok L φ a v} (h : R w ok L φ a v) (hf : a.flat = true) : ∀ u ∈ v.cells, u.oneCell' = true := by
  by_cases hagg : ∃ cs, a = .agg cs
  · obtain ⟨cs, rfl⟩ := hagg
    obtain ⟨vs, rfl, hl, ho, hr⟩ := h.aggInv
    intro u hu
    simp only [Value.cells] at hu
    obtain ⟨i, hi, rfl⟩ := List.mem_iff_getElem.1 (by simpa using hu)
    exact ho i _ (List.getElem?_eq_getElem hi)
  · have h1 : a.one = true := by
      cases a <;> simp_all [AV.flat, AV.one]
    obtain ⟨h2, h3⟩ := h.one h1
    rw [h3]
    intro u hu
    simp at hu
    subst hu
    exact h2
theorem R.rcf {w ok L φ a v} (h : R w ok L φ a v) (hf : a.flat = true) : RC w ok L φ a.cells v.cells.toList := h.rc (AV.flat_shaped hf) (h.flat hf)
theorem foldl_setAt (vs : List Value) (us : List Value) (o : Nat) (h : o + us.length ≤ vs.length) :
    (us.toArray.zipIdx.foldl (fun (cs : Array Value) (x : Value × Nat) => cs.setIfInBounds (o + x.2) x.1) vs.toArray) = (vs.take o ++ (us ++ vs.drop (o + us.length))).toArray := by
  have key : ∀ (us : List Value) (k : Nat) (vs : List Value), o + k + us.length ≤ vs.length →
      (us.zipIdx k).foldl (fun (cs : Array Value) (x : Value × Nat) => cs.setIfInBounds (o + x.2) x.1) vs.toArray = (vs.take (o + k) ++ (us ++ vs.drop (o + k + us.length))).toArray := by
    intro us
    induction us with
    | nil => intro k vs h; simp
    | cons u us ih =>
      intro k vs h
      simp only [List.zipIdx_cons, List.foldl_cons, List.setIfInBounds_toArray]
      rw [ih (k + 1) (vs.set (o + k) u) (by simp at h ⊢; omega)]
      congr 1
      simp only [List.length_cons] at h
      apply List.ext_getElem?
      intro i
      have hlt : o + k < vs.length := by omega
      simp only [List.getElem?_append, List.length_take, List.length_set, List.getElem?_take, List.getElem?_drop, List.getElem?_set, List.length_cons]
      by_cases h1 : i < o + k
      · rw [if_pos (by omega), if_pos (by omega), if_neg (by omega), if_pos (by omega), if_pos (by omega)]
      · by_cases h2 : i = o + k
        · subst h2
          rw [if_pos (by omega), if_pos (by omega), if_pos rfl, if_pos hlt, if_neg (by omega), if_pos (by omega)]
          simp [Nat.min_eq_left (Nat.le_of_lt hlt)]
        · by_cases h3 : i < o + k + 1 + us.length
          · rw [if_neg (by omega), if_pos (by omega), if_neg (by omega), if_pos (by omega)]
            rw [List.getElem?_cons, if_neg (by omega)]
            congr 1; omega
          · rw [if_neg (by omega), if_neg (by omega), if_neg (by omega), if_neg (by omega), if_neg (by omega)]
            congr 1; omega
  have := key us 0 vs (by omega)
  simp only [Nat.add_zero] at this
  rw [← this]
  rw [← Array.foldl_toList]
  simp
theorem fill_ok {w ok L φ} {place : Nat → Option (Nat × Nat)} : ∀ (ps : List (Nat × AV)) (qs : List (Nat × Value)) (cs : List AV) (vs : List Value) (r : List AV),
    fillA place cs ps = some r → RC w ok L φ cs vs → qs.length = ps.length →
    (∀ (i : Nat) (x : Nat × AV) (y : Nat × Value), ps[i]? = some x → qs[i]? = some y → y.1 = x.1 ∧ R w ok L φ x.2 y.2) → (∀ x ∈ ps, x.2.flat = true) →
    ∃ us, Instr.fill place vs.toArray qs = some us.toArray ∧ RC w ok L φ r us
  | [], [], cs, vs, r, h, hrc, _, _, _ => by
    simp [fillA] at h; subst h
    exact ⟨vs, rfl, hrc⟩
  | [], _ :: _, _, _, _, _, _, hl, _, _ => by simp at hl
  | _ :: _, [], _, _, _, _, _, hl, _, _ => by simp at hl
  | (i, v) :: ps, (j, u) :: qs, cs, vs, r, h, hrc, hl, hq, hfl => by
    obtain ⟨hji, huv⟩ := hq 0 (i, v) (j, u) rfl rfl
    simp only at hji huv
    subst hji
    simp only [fillA] at h
    simp only [Instr.fill]
    split at h
    · rename_i o n hp
      split at h
      · rename_i hc
        obtain ⟨hs, hn, hle⟩ := hc
        have hr := huv.rcf (hfl (j, v) (by simp))
        have hlen : u.cells.size = n := by rw [← hn, ← hr.1]; simp
        simp only [hp]
        rw [if_neg (by simp [hlen, hrc.1]; omega)]
        have hfold := foldl_setAt vs u.cells.toList o (by rw [hr.1, hn, hrc.1]; exact hle)
        simp only [Array.toArray_toList] at hfold
        rw [hfold]
        exact fill_ok ps qs _ _ r h (hrc.setAt hr o) (by simpa using hl) (fun k x y hx hy => hq (k + 1) x y (by simpa using hx) (by simpa using hy)) (fun x hx => hfl x (by simp [hx]))
      · simp at h
    · simp at h
def evBuild (P : Program) (t : TypeId) (ps : List (Nat × AV)) : Option (AV × Prop) :=
  match P.underlying t, zT P t with
  | some (.struct fields), some (.agg zs) =>
    match placesL P fields.toList with
    | some pl => (fillA (fun i => pl[i]?) zs ps).map fun cs => (.agg cs, (∀ x ∈ ps, x.2.flat = true) ∧ (∀ z ∈ zs, z.flat = true))
    | none => none
  | some (.array _ el), some (.agg zs) =>
    match szT P el with
    | some n => (fillA (fun i => some (i * n, n)) zs ps).map fun cs => (.agg cs, (∀ x ∈ ps, x.2.flat = true) ∧ (∀ z ∈ zs, z.flat = true))
    | none => none
  | _, _ => none
theorem AV.ofVal_one {v : Value} (h : (AV.ofVal v).flat = true) : v.oneCell' = true := by
  unfold AV.ofVal at h
  split at h <;> simp_all [AV.flat, Value.oneCell']
theorem zT_spec {P t z} (h : zT P t = some z) : ∃ i u, P.info? t = some i ∧ i.zero = some u ∧ z = .ofZero u := by
  unfold zT at h
  simp only [Option.map_eq_some_iff, Option.bind_eq_some_iff] at h
  obtain ⟨u, ⟨i, hi, hz⟩, rfl⟩ := h
  exact ⟨i, u, hi, hz, rfl⟩
theorem ofZero_agg {u : Value} {zs : List AV} (h : AV.ofZero u = .agg zs) : ∃ cs : Array Value, u = .agg cs ∧ zs = cs.toList.map AV.ofVal := by
  unfold AV.ofZero at h
  split at h
  · rename_i cs
    simp only [AV.agg.injEq] at h
    exact ⟨cs, rfl, h.symm⟩
  · rename_i hne
    unfold AV.ofVal at h
    split at h <;> simp at h
theorem RC_zero {w ok L φ} (cs : List Value) (h : ∀ z ∈ cs.map AV.ofVal, z.flat = true) : RC w ok L φ (cs.map AV.ofVal) cs := by
  refine ⟨by simp, fun i v hv => AV.ofVal_one (h _ (List.mem_map.2 ⟨v, List.mem_of_getElem? hv, rfl⟩)), fun i a v ha hv => ?_⟩
  simp only [List.getElem?_map, hv, Option.map_some, Option.some.injEq] at ha
  subst ha
  exact .pure _ _ (Rp_ofVal w ok v)
theorem evBuild_ok {P t ps v' p w ok L φ} {qs : Array (Nat × Value)} (h : evBuild P t ps = some (v', p)) (hp : p) (hl : qs.size = ps.length)
    (hq : ∀ (i : Nat) (x : Nat × AV) (y : Nat × Value), ps[i]? = some x → qs[i]? = some y → y.1 = x.1 ∧ R w ok L φ x.2 y.2) :
    ∃ v, (Instr.build t qs).run P w = .ok v w ∧ R w ok L φ v' v := by
  unfold evBuild at h
  split at h
  · rename_i fields zs hu hz
    obtain ⟨i, u, hi, hzu, hzz⟩ := zT_spec hz
    obtain ⟨cs, rfl, rfl⟩ := ofZero_agg hzz.symm
    split at h
    · rename_i pl hpl
      simp only [Option.map_eq_some_iff, Prod.mk.injEq] at h
      obtain ⟨r, hf, rfl, rfl⟩ := h
      obtain ⟨hfl, hzf⟩ := hp
      obtain ⟨us, hus, hrc⟩ := fill_ok ps qs.toList _ cs.toList r hf (RC_zero _ hzf) (by simpa using hl) (fun i x y hx hy => hq i x y hx (by simpa using hy)) hfl
      refine ⟨.agg us.toArray, ?_, .agg _ _ hrc.1 hrc.2.1 hrc.2.2⟩
      have hm : (fields.mapM fun f => do pure (f.offset, ← sizeOf f.type) : Sem (Array (Nat × Nat))).run P w = .ok pl.toArray w := by
        rw [Array.mapM_eq_mapM_toList, Sem.run_map, run_places hpl]
        rfl
      have hplace : (fun (x : Nat) => pl.toArray[x]?) = (fun (i : Nat) => pl[i]?) := by funext x; simp
      simp only [Instr.build, Sem.run_bind, zeroValue, typeInfo, run_program, Result.andThen_ok, hi, Sem.run_pure, hzu, Value.cells, run_underlying hu, hm]
      simp only [Array.toArray_toList] at hus
      rw [hplace, hus]
      rfl
    · simp at h
  · rename_i len el zs hu hz
    obtain ⟨i, u, hi, hzu, hzz⟩ := zT_spec hz
    obtain ⟨cs, rfl, rfl⟩ := ofZero_agg hzz.symm
    split at h
    · rename_i n hn
      simp only [Option.map_eq_some_iff, Prod.mk.injEq] at h
      obtain ⟨r, hf, rfl, rfl⟩ := h
      obtain ⟨hfl, hzf⟩ := hp
      obtain ⟨us, hus, hrc⟩ := fill_ok ps qs.toList _ cs.toList r hf (RC_zero _ hzf) (by simpa using hl) (fun i x y hx hy => hq i x y hx (by simpa using hy)) hfl
      refine ⟨.agg us.toArray, ?_, .agg _ _ hrc.1 hrc.2.1 hrc.2.2⟩
      simp only [Instr.build, Sem.run_bind, zeroValue, typeInfo, run_program, Result.andThen_ok, hi, Sem.run_pure, hzu, Value.cells, run_underlying hu, run_sizeOf' hn]
      simp only [Array.toArray_toList] at hus
      rw [hus]
      rfl
    · simp at h
  · simp at h
end Go.Abs
set_option linter.unusedVariables false
set_option linter.unusedSimpArgs false
namespace Go.Abs
def eqInt : AV → AV → Option (Bool × Prop)
  | .int k a, .int k' b => if k = k' then some (decide (a = b), True) else none
  | _, _ => none
def eqBool : AV → AV → Option (Bool × Prop)
  | .bool a, .bool b => some (a == b, True)
  | _, _ => none
def eqStr : AV → AV → Option (Bool × Prop)
  | .str a, .str b => some (decide (a = b), True)
  | _, _ => none
def eqPtr : AV → AV → Option (Bool × Prop)
  | .nilp, .nilp => some (true, True)
  | .nilp, .ptr .. => some (false, True)
  | .ptr .., .nilp => some (false, True)
  | .nilp, .radr _ => some (false, True)
  | .radr _, .nilp => some (false, True)
  | _, _ => none
def eqSl : AV → AV → Option (Bool × Prop)
  | .nils, .nils => some (true, True)
  | _, _ => none
def eqFn : AV → AV → Option (Bool × Prop)
  | .nilf, .nilf => some (true, True)
  | .nilf, .clo .. => some (false, True)
  | .clo .., .nilf => some (false, True)
  | _, _ => none
def fldA (P : Program) (xs : List AV) (f : Field) : Option (AV × Prop) :=
  match aggT P f.type, szT P f.type with
  | some false, some _ => some (xs.getD f.offset .any, f.offset < xs.length)
  | some true, some n => some (.agg ((xs.drop f.offset).take n), True)
  | _, _ => none
def evEqF (P : Program) (eq : TypeId → AV → AV → Option (Bool × Prop)) (xs ys : List AV) : List Field → Option (Bool × Prop)
  | [] => some (true, True)
  | f :: fs =>
    if f.name = "_" then evEqF P eq xs ys fs
    else match fldA P xs f, fldA P ys f with
      | some (a, p1), some (b, p2) => match eq f.type a b, evEqF P eq xs ys fs with
        | some (r, p), some (r', p') => some (r && r', p1 ∧ p2 ∧ p ∧ p')
        | _, _ => none
      | _, _ => none
def evEqS (P : Program) (eq : TypeId → AV → AV → Option (Bool × Prop)) (t : TypeId) (fs : List Field) : AV → AV → Option (Bool × Prop)
  | .agg xs, .agg ys => (evEqF P eq xs ys fs).map fun r => (r.1, r.2 ∧ P.stoodInHeld t = false)
  | _, _ => none
def evEq (P : Program) : Nat → TypeId → AV → AV → Option (Bool × Prop)
  | 0, _, _, _ => none
  | n + 1, t, x, y => match P.underlying t with
    | some .bool => eqBool x y
    | some (.int _) => eqInt x y
    | some .string => eqStr x y
    | some (.pointer _) => eqPtr x y
    | some (.slice _) => eqSl x y
    | some (.func ..) => eqFn x y
    | some (.struct fs) => evEqS P (evEq P n) t fs.toList x y
    | _ => none
theorem R.boolInv' {w ok L φ b v} (h : R w ok L φ (.bool b) v) : v = .bool b := by cases h with | pure _ _ h => cases h; rfl
theorem R.intInv' {w ok L φ k n v} (h : R w ok L φ (.int k n) v) : v = .int k n := by cases h with | pure _ _ h => cases h; rfl
theorem R.strInv' {w ok L φ s v} (h : R w ok L φ (.str s) v) : v = .string ⟨s.toArray⟩ := by cases h with | pure _ _ h => cases h; rfl
theorem fld_ok {P : Program} {w ok L φ} {xs : List AV} {vs : List Value} {f : Field} {a : AV} {p : Prop} (h : fldA P xs f = some (a, p)) (hp : p) (hl : vs.length = xs.length)
    (ho : ∀ (i : Nat) (v : Value), vs[i]? = some v → v.oneCell' = true) (hr : ∀ (i : Nat) (a : AV) (v : Value), xs[i]? = some a → vs[i]? = some v → R w ok L φ a v) :
    ∃ v, (part f.type vs.toArray f.offset).run P w = .ok v w ∧ R w ok L φ a v := by
  unfold fldA at h
  split at h <;> simp only [Option.some.injEq, reduceCtorEq, Prod.mk.injEq] at h
  · rename_i m hag hsz
    obtain ⟨rfl, rfl⟩ := h
    have hm : f.offset < vs.length := by omega
    refine ⟨vs[f.offset], ?_, ?_⟩
    · simp [part, run_isAgg' hag, List.getElem?_eq_getElem hm]
    · have : xs.getD f.offset .any = xs[f.offset] := by simp [List.getD_eq_getElem?_getD, List.getElem?_eq_getElem hp]
      rw [this]
      exact hr _ _ _ (List.getElem?_eq_getElem hp) (List.getElem?_eq_getElem hm)
  · rename_i n hag hsz
    obtain ⟨rfl, rfl⟩ := h
    refine ⟨.agg ((vs.drop f.offset).take n).toArray, ?_, R.aggSub hl ho hr _ _⟩
    simp [part, run_isAgg' hag, run_sizeOf' hsz, extract_toList']
theorem evEqF_ok {P : Program} {w ok L φ} {eq : TypeId → AV → AV → Option (Bool × Prop)} {d : Nat} (heq : ∀ t x y b p vx vy, eq t x y = some (b, p) → p → R w ok L φ x vx → R w ok L φ y vy → (Op.equalIn d t vx vy).run P w = .ok b w)
    {xs ys : List AV} {us vs : List Value} (hl : us.length = xs.length) (ho : ∀ (i : Nat) (v : Value), us[i]? = some v → v.oneCell' = true) (hr : ∀ (i : Nat) (a : AV) (v : Value), xs[i]? = some a → us[i]? = some v → R w ok L φ a v)
    (hl' : vs.length = ys.length) (ho' : ∀ (i : Nat) (v : Value), vs[i]? = some v → v.oneCell' = true) (hr' : ∀ (i : Nat) (a : AV) (v : Value), ys[i]? = some a → vs[i]? = some v → R w ok L φ a v) :
    ∀ (fs : List Field) (b : Bool) (p : Prop), evEqF P eq xs ys fs = some (b, p) → p → (Op.eqFields d us.toArray vs.toArray fs).run P w = .ok b w
  | [], b, p, h, hp => by
    simp only [evEqF, Option.some.injEq, Prod.mk.injEq] at h
    obtain ⟨rfl, _⟩ := h
    simp [Op.eqFields]
  | f :: fs, b, p, h, hp => by
    simp only [evEqF] at h
    by_cases hn : f.name = "_"
    · rw [if_pos hn] at h
      have := evEqF_ok heq hl ho hr hl' ho' hr' fs b p h hp
      simp [Op.eqFields, hn, this]
    · rw [if_neg hn] at h
      split at h <;> try (simp at h; done)
      rename_i a p1 c p2 h1 h2
      split at h <;> simp only [Option.some.injEq, reduceCtorEq, Prod.mk.injEq] at h
      rename_i r q r' q' h3 h4
      obtain ⟨rfl, rfl⟩ := h
      obtain ⟨g1, g2, g3, g4⟩ := hp
      obtain ⟨v1, k1, k2⟩ := fld_ok h1 g1 hl ho hr
      obtain ⟨v2, k3, k4⟩ := fld_ok h2 g2 hl' ho' hr'
      have k5 := heq _ _ _ _ _ _ _ h3 g3 k2 k4
      have k6 := evEqF_ok heq hl ho hr hl' ho' hr' fs r' q' h4 g4
      simp only [Op.eqFields, ne_eq, hn, not_false_eq_true, if_true, Sem.run_bind, k1, k3, k5, Result.andThen_ok]
      cases r
      · simp
      · simp [k6]
theorem evEq_ok {P : Program} {w ok L φ} : ∀ (n : Nat) (t : TypeId) (x y : AV) (b : Bool) (p : Prop) (vx vy : Value) (d : Nat), n ≤ d → evEq P n t x y = some (b, p) → p → R w ok L φ x vx → R w ok L φ y vy → (Op.equalIn d t vx vy).run P w = .ok b w
  | 0, t, x, y, b, p, vx, vy, d, _, h, _, _, _ => by simp [evEq] at h
  | n + 1, t, x, y, b, p, vx, vy, 0, hd, h, hp, hx, hy => by omega
  | n + 1, t, x, y, b, p, vx, vy, d + 1, hd, h, hp, hx, hy => by
    simp only [evEq] at h
    split at h
    · rename_i hu
      unfold eqBool at h
      split at h <;> simp only [Option.some.injEq, reduceCtorEq, Prod.mk.injEq] at h
      obtain ⟨rfl, _⟩ := h
      rw [hx.boolInv', hy.boolInv']
      simp [Op.equalIn, run_underlying hu]
    · rename_i k hu
      unfold eqInt at h
      split at h
      · split at h <;> simp only [Option.some.injEq, reduceCtorEq, Prod.mk.injEq] at h
        rename_i hk
        subst hk
        obtain ⟨rfl, _⟩ := h
        rw [hx.intInv', hy.intInv']
        simp [Op.equalIn, run_underlying hu]
        rw [Bool.eq_iff_iff]; simp
      · simp at h
    · rename_i hu
      unfold eqStr at h
      split at h <;> simp only [Option.some.injEq, reduceCtorEq, Prod.mk.injEq] at h
      obtain ⟨rfl, _⟩ := h
      rw [hx.strInv', hy.strInv']
      rename_i a c _
      have e : ((⟨a.toArray⟩ : ByteArray) == ⟨c.toArray⟩) = decide (a = c) := by
        rw [beq_toListBytes, ByteArray.toList_eq, ByteArray.toList_eq, Bool.eq_iff_iff]
        simp
      simp [Op.equalIn, run_underlying hu, e]
    · rename_i e hu
      unfold eqPtr at h
      split at h <;> simp only [Option.some.injEq, reduceCtorEq, Prod.mk.injEq] at h <;> obtain ⟨rfl, _⟩ := h
      · obtain rfl : vx = .pointer none := by cases hx with | pure _ _ h => cases h; rfl
        obtain rfl : vy = .pointer none := by cases hy with | pure _ _ h => cases h; rfl
        simp [Op.equalIn, run_underlying hu]
      · obtain rfl : vx = .pointer none := by cases hx with | pure _ _ h => cases h; rfl
        obtain ⟨pa, rfl⟩ : ∃ pa, vy = .pointer (some pa) := by cases hy with | pure _ _ h => cases h | ptr _ _ _ _ pa => exact ⟨pa, rfl⟩
        simp [Op.equalIn, run_underlying hu]
      · obtain rfl : vy = .pointer none := by cases hy with | pure _ _ h => cases h; rfl
        obtain ⟨pa, rfl⟩ : ∃ pa, vx = .pointer (some pa) := by cases hx with | pure _ _ h => cases h | ptr _ _ _ _ pa => exact ⟨pa, rfl⟩
        simp [Op.equalIn, run_underlying hu]
      · obtain rfl : vx = .pointer none := by cases hx with | pure _ _ h => cases h; rfl
        obtain ⟨pa, rfl⟩ : ∃ pa, vy = .pointer (some pa) := by cases hy with | pure _ _ h => cases h; exact ⟨_, rfl⟩
        simp [Op.equalIn, run_underlying hu]
      · obtain rfl : vy = .pointer none := by cases hy with | pure _ _ h => cases h; rfl
        obtain ⟨pa, rfl⟩ : ∃ pa, vx = .pointer (some pa) := by cases hx with | pure _ _ h => cases h; exact ⟨_, rfl⟩
        simp [Op.equalIn, run_underlying hu]
    · rename_i e hu
      unfold eqSl at h
      split at h <;> simp only [Option.some.injEq, reduceCtorEq, Prod.mk.injEq] at h
      obtain ⟨rfl, _⟩ := h
      obtain rfl : vx = .slice none 0 0 := by cases hx with | pure _ _ h => cases h; rfl
      obtain rfl : vy = .slice none 0 0 := by cases hy with | pure _ _ h => cases h; rfl
      simp [Op.equalIn, run_underlying hu]
    · rename_i e1 e2 e3 hu
      unfold eqFn at h
      split at h <;> simp only [Option.some.injEq, reduceCtorEq, Prod.mk.injEq] at h <;> obtain ⟨rfl, _⟩ := h
      · obtain rfl : vx = .nilFunc := by cases hx with | pure _ _ h => cases h; rfl
        obtain rfl : vy = .nilFunc := by cases hy with | pure _ _ h => cases h; rfl
        simp [Op.equalIn, run_underlying hu]
      · obtain rfl : vx = .nilFunc := by cases hx with | pure _ _ h => cases h; rfl
        obtain ⟨f, a, c, rfl⟩ : ∃ f a c, vy = .func f a c := by
          cases hy with
          | pure _ _ h => cases h; exact ⟨_, _, _, rfl⟩
          | clo f k cs vs => exact ⟨_, _, _, rfl⟩
        simp [Op.equalIn, run_underlying hu]
      · obtain rfl : vy = .nilFunc := by cases hy with | pure _ _ h => cases h; rfl
        obtain ⟨f, a, c, rfl⟩ : ∃ f a c, vx = .func f a c := by
          cases hx with
          | pure _ _ h => cases h; exact ⟨_, _, _, rfl⟩
          | clo f k cs vs => exact ⟨_, _, _, rfl⟩
        simp [Op.equalIn, run_underlying hu]
    · rename_i fs hu
      unfold evEqS at h
      split at h <;> try (simp at h; done)
      rename_i xs ys
      simp only [Option.map_eq_some_iff, Prod.mk.injEq] at h
      obtain ⟨⟨r, q⟩, h1, rfl, rfl⟩ := h
      obtain ⟨us, rfl, hl, ho, hr⟩ := hx.aggInv
      obtain ⟨vs, rfl, hl', ho', hr'⟩ := hy.aggInv
      have hf : P.fieldsOf t = fs := by simp [Program.fieldsOf, hu]
      rw [run_equalIn_struct w d t us.toArray vs.toArray (by rw [hf]; exact hu) hp.2, hf]
      exact evEqF_ok (eq := evEq P n) (d := d) (fun t x y b p vx vy h hp hx hy => evEq_ok n t x y b p vx vy d (by omega) h hp hx hy) hl ho hr hl' ho' hr' fs.toList r q h1 hp.1
    · simp at h
def evEqOp (P : Program) (op : BinOp) (t : TypeId) (x y : AV) : Option (AV × Prop) :=
  match op with
  | .eql => (evEq P 8 t x y).map fun r => (.bool r.1, r.2 ∧ P.eqGuardType P.depth t = false)
  | .neq => (evEq P 8 t x y).map fun r => (.bool (!r.1), r.2 ∧ P.eqGuardType P.depth t = false)
  | _ => none
def otherA : AV → Bool
  | .agg _ | .ptr .. | .nilp | .radr _ | .nils | .nilf | .clo .. => true
  | _ => false
def evEqO (P : Program) (op : BinOp) (t : TypeId) (x y : AV) : Bool → Option (AV × Prop)
  | true => evEqOp P op t x y
  | false => none
def evEqB (P : Program) (op : BinOp) (t : TypeId) (x y : AV) : Option (AV × Prop) :=
  evEqO P op t x y (otherA x)
theorem other_bin {P : Program} {w ok L φ} {op : BinOp} {t : TypeId} {x : AV} {vx vy : Value} {ox oy : Operand} (ho : otherA x = true) (hx : R w ok L φ x vx) (hg : P.eqGuardType P.depth t = false) (heq : op = .eql ∨ op = .neq) :
    ((do eqGuard op t ox oy vx vy; binOp op t vx vy) : Sem Value).run P w = ((Op.equal t vx vy).run P w).andThen fun b w' => .ok (.bool (match op with | .eql => b | _ => !b)) w' := by
  have key : (∃ xs, vx = .agg xs) ∨ (∃ a, vx = .pointer a) ∨ (∃ a n m, vx = .slice a n m) ∨ vx = .nilFunc ∨ (∃ f a c, vx = .func f a c) := by
    cases hx with
    | pure _ _ h => cases h <;> simp [otherA] at ho <;> simp
    | ref => simp
    | ptr => simp
    | it => simp
    | yld => simp
    | mp => simp [otherA] at ho
    | agg => simp
    | tuple => simp [otherA] at ho
    | clo => simp
    | condT => simp [otherA] at ho
  rcases key with ⟨xs, rfl⟩ | ⟨a, rfl⟩ | ⟨a, n, m, rfl⟩ | rfl | ⟨f, a, c, rfl⟩
  · have hgd : ∀ vy, (eqGuard op t ox oy (.agg xs) vy).run P w = .ok () w := by
      intro vy
      cases vy <;> rcases heq with rfl | rfl <;> simp [eqGuard, run_program, hg]
    rw [Sem.run_bind, hgd, Result.andThen_ok]
    rcases heq with rfl | rfl <;> cases vy <;> simp [binOp]
  all_goals
    rw [Sem.run_bind]
    rcases heq with rfl | rfl <;> cases vy <;> simp [eqGuard, binOp]
theorem evEqB_ok {P op t x y v' p w ok L φ vx vy ox oy} (h : evEqB P op t x y = some (v', p)) (hp : p) (hx : R w ok L φ x vx) (hy : R w ok L φ y vy) :
    ∃ v, ((do eqGuard op t ox oy vx vy; binOp op t vx vy) : Sem Value).run P w = .ok v w ∧ R w ok L φ v' v := by
  unfold evEqB at h
  cases ho : otherA x with
  | true =>
    rw [ho] at h
    simp only [evEqO] at h
    unfold evEqOp at h
    split at h
    · simp only [Option.map_eq_some_iff, Prod.mk.injEq] at h
      obtain ⟨⟨r, q⟩, h1, rfl, rfl⟩ := h
      refine ⟨_, ?_, .pure _ _ (.bool r)⟩
      rw [other_bin ho hx hp.2 (.inl rfl)]
      have := evEq_ok (P := P) 8 t x y r q vx vy Op.maxDepth (by decide) h1 hp.1 hx hy
      simp only [Op.equal, this, Result.andThen_ok]
    · simp only [Option.map_eq_some_iff, Prod.mk.injEq] at h
      obtain ⟨⟨r, q⟩, h1, rfl, rfl⟩ := h
      refine ⟨_, ?_, .pure _ _ (.bool (!r))⟩
      rw [other_bin ho hx hp.2 (.inr rfl)]
      have := evEq_ok (P := P) 8 t x y r q vx vy Op.maxDepth (by decide) h1 hp.1 hx hy
      simp only [Op.equal, this, Result.andThen_ok]
    · simp at h
  | false => rw [ho] at h; simp [evEqO] at h
def evOwn (P : Program) (t : TypeId) (sz : Nat) (l : List AV) : AV → BinOp → Option (AV × Prop)
  | .nils, .eql => match P.underlying t with
    | some (.slice _) => some (.own sz l, True)
    | _ => none
  | _, _ => none
def listA : AV → Option (Nat × List AV)
  | .list sz l => some (sz, l)
  | _ => none
def evBinN (P : Program) (wr : Bool) (op : BinOp) (t : TypeId) (x y : AV) : Option (Nat × List AV) → Option (AV × Prop)
  | some (sz, l) => evOwn P t sz l y op
  | none => evBin P wr op t x y
theorem evBinN_ok {P wr op t x y v' p w ok L φ vx vy ox oy} (h : evBinN P wr op t x y (listA x) = some (v', p)) (hp : p) (hx : R w ok L φ x vx) (hy : R w ok L φ y vy) :
    ∃ v, ((do eqGuard op t ox oy vx vy; binOp op t vx vy) : Sem Value).run P w = .ok v w ∧ R w ok L φ v' v := by
  cases x with
  | list sz l =>
    simp only [listA, evBinN] at h
    unfold evOwn at h
    split at h
    · split at h
      · rename_i e hu
        simp only [Option.some.injEq, Prod.mk.injEq] at h
        obtain ⟨rfl, _⟩ := h
        obtain rfl : vy = .slice none 0 0 := by cases hy with | pure _ _ h => cases h; rfl
        have key : ∃ a n c, vx = .slice a n c ∧ (a.isNone = true → l = []) := by
          cases hx with
          | pure _ _ h => cases h with
            | list0 _ a cap hm => exact ⟨a, 0, cap, rfl, fun _ => rfl⟩
            | list _ _ b off cap => exact ⟨_, _, _, rfl, fun h => by simp at h⟩
        obtain ⟨a, n, c, rfl, hn⟩ := key
        refine ⟨.bool a.isNone, ?_, .pure _ _ (.own sz l _ hn)⟩
        have k : ∀ d, (Op.equalIn (d + 1) t (.slice a n c) (.slice none 0 0)).run P w = .ok a.isNone w := fun d => by cases a <;> simp [Op.equalIn, run_underlying hu]
        have k2 : (Op.equal t (.slice a n c) (.slice none 0 0)).run P w = .ok a.isNone w := k 9999
        simp [eqGuard, binOp, k2]
      · simp at h
    · simp at h
  | _ => simp only [listA, evBinN] at h; exact evBin_ok h hp hx hy
def evBinS (P : Program) (wr : Bool) (op : BinOp) (t : TypeId) (x y : AV) : Bool → Option (AV × Prop)
  | true => evEqB P op t x y
  | false => evBinN P wr op t x y (listA x)
def evBinX (P : Program) (wr : Bool) (op : BinOp) (t : TypeId) (x y : AV) : Option (AV × Prop) := evBinS P wr op t x y (otherA x)
theorem evBinX_ok {P wr op t x y v' p w ok L φ vx vy ox oy} (h : evBinX P wr op t x y = some (v', p)) (hp : p) (hx : R w ok L φ x vx) (hy : R w ok L φ y vy) :
    ∃ v, ((do eqGuard op t ox oy vx vy; binOp op t vx vy) : Sem Value).run P w = .ok v w ∧ R w ok L φ v' v := by
  unfold evBinX at h
  cases ho : otherA x with
  | true => rw [ho] at h; exact evEqB_ok h hp hx hy
  | false => rw [ho] at h; exact evBinN_ok h hp hx hy
end Go.Abs
end
section
set_option linter.unusedVariables false
set_option linter.unusedSimpArgs false
namespace Go.Abs
structure Wr (g : Nat) (w w' : World) : Prop where
  os : w'.os = w.os
  tape : w'.tape = w.tape
  output : w'.output = w.output
  size : w'.heap.size = w.heap.size
  block : ∀ k, k ≠ g → w'.heap[k]? = w.heap[k]?
theorem Wr.refl (g w) : Wr g w w := ⟨rfl, rfl, rfl, rfl, fun _ _ => rfl⟩
theorem Wr.trans {g a b c} (h : Wr g a b) (k : Wr g b c) : Wr g a c :=
  ⟨k.os.trans h.os, k.tape.trans h.tape, k.output.trans h.output, k.size.trans h.size, fun i hi => (k.block i hi).trans (h.block i hi)⟩
structure Grow (o : Obj) (w w' : World) : Prop where
  os : w'.os = w.os
  tape : w'.tape = w.tape
  output : w'.output = w.output
  size : w'.heap.size = w.heap.size + 1
  block : ∀ k, k < w.heap.size → w'.heap[k]? = w.heap[k]?
  new : w'.heap[w.heap.size]? = some o
theorem Grow.alloc (w : World) (o : Obj) : Grow o w (w.alloc o) :=
  ⟨rfl, rfl, rfl, by simp, fun k hk => heap_alloc_old w o k hk, heap_alloc_new w o⟩
theorem Grow.drewAlloc (w : World) (o : Obj) : Grow o w (w.drew.alloc o) :=
  ⟨rfl, rfl, rfl, by simp, fun k hk => heap_alloc_old w.drew o k hk, heap_alloc_new w.drew o⟩
theorem cell_blk {w : World} {b o : Nat} {cs : Array Value} {e : TypeId} {fz : Nat × Nat} (h : w.heap[b]? = some (.cells cs e fz)) :
    w.cell? ⟨b, o, none⟩ = cs[o]? := by simp [World.cell?, h]
theorem run_storeCells_blk {P : Program} (g o : Nat) (e : TypeId) (lo hi : Nat) : ∀ (us : List Value) (i : Nat) (cur : List Value) (w : World),
    w.heap[g]? = some (.cells cur.toArray e (lo, hi)) → (∀ k, k < cur.length → ¬ (lo ≤ k ∧ k < hi)) → o + i + us.length ≤ cur.length → (∀ u ∈ us, u.oneCell' = true) →
    ∃ w', (storeCells ⟨g, o, none⟩ us i).run P w = .ok () w' ∧ Wr g w w' ∧
      w'.heap[g]? = some (.cells (cur.take (o + i) ++ (us ++ cur.drop (o + i + us.length))).toArray e (lo, hi))
  | [], i, cur, w, hg, _, _, _ => ⟨w, by simp [storeCells], Wr.refl g w, by simpa using hg⟩
  | v :: rest, i, cur, w, hg, hf, hl, h1 => by
    have hi' : o + i < cur.length := by simp at hl; omega
    have hcell : w.cell? ⟨g, o + i, none⟩ = some cur[o + i] := by rw [cell_blk hg]; simp [hi']
    have hfro : w.frozen? ⟨g, o + i, none⟩ = false := by
      have := hf (o + i) hi'
      simp only [World.frozen?, hg]
      simp only [Bool.and_eq_false_iff, decide_eq_false_iff_not]
      omega
    have hst : (store ((⟨g, o, none⟩ : Addr).add i) v).run P w = .ok () (w.setCell ⟨g, o + i, none⟩ v) := by
      rw [addr_add_plain, run_store P w _ v _ (h1 v (by simp)), hcell]
      simp [hfro]
    have hset : (w.setCell ⟨g, o + i, none⟩ v).heap[g]? = some (.cells (cur.set (o + i) v).toArray e (lo, hi)) := by
      simp only [World.setCell, Array.getElem?_modify, if_true, hg, Option.map_some]
      simp
    obtain ⟨w', h2, h3, h4⟩ := run_storeCells_blk (P := P) g o e lo hi rest (i + 1) (cur.set (o + i) v) (w.setCell ⟨g, o + i, none⟩ v) hset
      (fun k hk => hf k (by simpa using hk)) (by simp at hl ⊢; omega) (fun u hu => h1 u (by simp [hu]))
    have hwr : Wr g w (w.setCell ⟨g, o + i, none⟩ v) := ⟨rfl, rfl, rfl, by simp, fun k hk => by simp only [World.setCell, Array.getElem?_modify]; rw [if_neg (by omega)]⟩
    refine ⟨w', ?_, hwr.trans h3, ?_⟩
    · simp only [storeCells, Sem.run_bind, hst, Result.andThen_ok, h2]
    · rw [h4]
      congr 3
      have e := list_seg_step cur (o + i) v rest (by simp at hl ⊢; omega)
      simpa [Nat.add_assoc] using e
def updL (L : Nat → Option Blk) (id : Nat) (b : Blk) : Nat → Option Blk := fun i => if id = i then some b else L i
def updP (φ : Nat → Option Nat) (id : Nat) (b : Option Nat) : Nat → Option Nat := fun i => if id = i then b else φ i
theorem lk_upd1 (st : St) (id : Nat) (b : Blk) : (st.upd [(id, b)]).lk = updL st.lk id b := by
  funext i; simp [St.upd, St.lk, lkB, updL]
theorem capOK_of_heap {w w' : World} {b n : Nat} (h : w'.heap[b]? = w.heap[b]?) (hc : CapOK w b n) : CapOK w' b n := by
  obtain ⟨cur, e, fz, h1, h2⟩ := hc
  exact ⟨cur, e, fz, by rw [h]; exact h1, h2⟩
theorem capOK_lt {w : World} {b n : Nat} (hc : CapOK w b n) : b < w.heap.size := by
  obtain ⟨cur, e, fz, h1, _⟩ := hc
  exact (Array.getElem?_eq_some_iff.1 h1).1
theorem HeapOK.live {w ok L φ id b} (h : HeapOK w ok L φ) (hb : φ id = some b) :
    (∃ sz ro d c vs rest e lo hi, L id = some (.cells sz ro d c) ∧ w.heap[b]? = some (.cells (vs ++ rest).toArray e (lo, hi)) ∧
      BF d e (vs ++ rest).length lo hi ∧ RE w ok L φ sz c vs) ∨
    (∃ blk o, L id = some blk ∧ w.heap[b]? = some o ∧ ObjR w ok L φ blk o) := by
  have nc : ∀ blk, L id = some blk → blk.isC = false → ∃ blk o, L id = some blk ∧ w.heap[b]? = some o ∧ ObjR w ok L φ blk o := fun blk hL hc => by
    obtain ⟨k, o, h1, h2, h3⟩ := h.obj id blk hL hc
    rw [hb] at h1; cases h1
    exact ⟨blk, o, hL, h2, h3⟩
  cases hL : L id with
  | none => rw [h.dom id hL] at hb; cases hb
  | some blk =>
    cases blk with
    | cells sz ro d c =>
      rcases h.blk id sz ro d c hL with ⟨h1, _⟩ | ⟨b', vs, rest, e, lo, hi, h1, h2, h3, h4⟩
      · rw [hb] at h1; cases h1
      · rw [hb] at h1; cases h1
        exact .inl ⟨sz, ro, d, c, vs, rest, e, lo, hi, rfl, h2, h3, h4⟩
    | iter s pos => exact .inr (hL ▸ nc _ hL rfl)
    | loop lc st pd sl => exact .inr (hL ▸ nc _ hL rfl)
    | defer => exact .inr (hL ▸ nc _ hL rfl)
    | map es => exact .inr (hL ▸ nc _ hL rfl)
theorem HeapOK.lt {w ok L φ id b} (h : HeapOK w ok L φ) (hb : φ id = some b) : b < w.heap.size := by
  rcases h.live hb with ⟨_, _, _, _, _, _, _, _, _, _, h2, _⟩ | ⟨_, _, _, h2, _⟩ <;> exact (Array.getElem?_eq_some_iff.1 h2).1
theorem Ext.new {w0 X L ok φ w w' id blk o} (h : HeapOK w ok L φ) (hw0 : w0.heap.size ≤ w.heap.size) (hid : L id = none) (hg : Grow o w w')
    (hblk : (∃ sz ro d c vs rest e lo hi, blk = .cells sz ro d c ∧ o = .cells (vs ++ rest).toArray e (lo, hi) ∧ BF d e (vs ++ rest).length lo hi ∧ RE w ok L φ sz c vs) ∨
      ObjR w ok L φ blk o) :
    Ext w0 X L ok φ w (updL L id blk) ok (updP φ id (some w.heap.size)) w' := by
  have hc : ∀ b o, ok b o → w'.cell? ⟨b, o, none⟩ = w.cell? ⟨b, o, none⟩ := fun b o hb =>
    World.cell?_of_block (a := ⟨b, o, none⟩) (hg.block b (h.shut b o hb).1)
  have hne : ∀ i blk', L i = some blk' → id ≠ i := fun i blk' hi e => by subst e; rw [hid] at hi; cases hi
  have hφn : φ id = none := h.dom id hid
  have keep : Keeps w ok L φ w' ok (updL L id blk) (updP φ id (some w.heap.size)) := by
    refine ⟨fun _ _ h => h, hc, fun i sz ro d c hi => ⟨ro, d, c, by simp [updL, hne i _ hi, hi], Nat.le_refl _, fun _ => ⟨by simp [updP, hne i _ hi], fun b n hb hcap => ?_⟩⟩,
      fun i bb hi hcc => ⟨bb, by simp [updL, hne i _ hi, hi], Blk.same_refl hcc, by simp [updP, hne i _ hi]⟩⟩
    exact capOK_of_heap (hg.block b (capOK_lt hcap)) hcap
  have hk := fun a v hr => R.keep (a := a) (v := v) keep hr
  refine ⟨keep, ⟨?_, ?_, ?_, ?_, ?_⟩, ?_, ?_, fun _ _ _ _ h => .inl h, fun b hb => ?_⟩
  rotate_left 7
  · have hlt : b < w.heap.size := (Array.getElem?_eq_some_iff.1 hb.at_).1
    refine ⟨(hg.block b hlt).trans hb.at_, fun i hi => ?_, hb.shut⟩
    simp only [updP] at hi
    split at hi
    · cases hi; omega
    · exact hb.name i hi
  · intro i sz ro d c hi
    by_cases e : id = i
    · subst e
      simp only [updL, if_true, Option.some.injEq] at hi
      subst hi
      rcases hblk with ⟨sz', ro', d', c', vs, rest, e, lo, hi', h1, h2, h3, h4⟩ | h1
      · cases h1
        subst h2
        exact .inr ⟨w.heap.size, vs, rest, e, lo, hi', by simp [updP], hg.new, h3, h4.keep hk⟩
      · have := h1.notC; simp [Blk.isC] at this
    · simp only [updL, if_neg e] at hi
      simp only [updP, if_neg e]
      rcases h.blk i sz ro d c hi with h1 | ⟨b, vs, rest, ee, lo, hi', h1, h2, h3, h4⟩
      · exact .inl h1
      · exact .inr ⟨b, vs, rest, ee, lo, hi', h1, by rw [hg.block b (h.lt h1)]; exact h2, h3, h4.keep hk⟩
  · intro i bb hi hcc
    by_cases e : id = i
    · subst e
      simp only [updL, if_true, Option.some.injEq] at hi
      subst hi
      rcases hblk with ⟨sz', ro', d', c', vs, rest, e, lo, hi', h1, _⟩ | h1
      · subst h1; simp [Blk.isC] at hcc
      · exact ⟨w.heap.size, o, by simp [updP], hg.new, h1.keep hk⟩
    · simp only [updL, if_neg e] at hi
      obtain ⟨b, o', h1, h2, h3⟩ := h.obj i bb hi hcc
      exact ⟨b, o', by simp [updP, e, h1], by rw [hg.block b (h.lt h1)]; exact h2, h3.keep hk⟩
  · intro i hi
    by_cases e : id = i
    · subst e; simp [updL] at hi
    · simp only [updL, if_neg e] at hi; simp [updP, e, h.dom i hi]
  · intro i j b hi hj
    simp only [updP] at hi hj
    split at hi <;> split at hj
    · omega
    · rename_i e1 e2; cases hi; exact absurd (h.lt hj) (by omega)
    · rename_i e1 e2; cases hj; exact absurd (h.lt hi) (by omega)
    · exact h.inj i j b hi hj
  · intro b o hb
    obtain ⟨h1, h2⟩ := h.shut b o hb
    refine ⟨by rw [hg.size]; omega, fun i hi => ?_⟩
    simp only [updP] at hi
    split at hi
    · cases hi; omega
    · rename_i e; simp only [updL, if_neg e]; exact h2 i hi
  · intro _ hf
    exact hf.trans (X := X) (Y := fun _ => False) ⟨hg.os, hg.tape, hg.output, by rw [hg.size]; omega, fun k hk _ => hg.block k hk⟩ (fun _ h => h.elim)
  · intro ho _ i b hi
    simp only [updP] at hi
    split at hi
    · cases hi; exact .inr hw0
    · exact ho i b hi
theorem Ext.wrote {w0 X L ok φ w w' id b blk} (h : HeapOK w ok L φ) (hb : φ id = some b) (hw : Wr b w w')
    (hblk : (∃ sz d c d' c' vs rest e lo hi, L id = some (.cells sz false d c) ∧ blk = .cells sz false d' c' ∧ c'.length = c.length ∧ w'.heap[b]? = some (.cells (vs ++ rest).toArray e (lo, hi)) ∧
        BF d' e (vs ++ rest).length lo hi ∧ RE w ok L φ sz c' vs ∧ (∀ n, CapOK w b n → CapOK w' b n)) ∨
      (∃ blk0 o, L id = some blk0 ∧ blk0.same blk ∧ w'.heap[b]? = some o ∧ ObjR w ok L φ blk o)) :
    Ext w0 X L ok φ w (updL L id blk) ok φ w' := by
  have hnb : ∀ k o, ok k o → k ≠ b := fun k o hk e => by
    subst e
    obtain ⟨sz, d, c, h1, _⟩ := (h.shut k o hk).2 id hb
    rcases hblk with ⟨_, _, _, _, _, _, _, _, _, _, h2, _⟩ | ⟨_, _, h2, h3, _⟩
    · rw [h1] at h2; cases h2
    · rw [h1] at h2; cases h2; have := Blk.same_notC' h3; simp [Blk.isC] at this
  have hc : ∀ k o, ok k o → w'.cell? ⟨k, o, none⟩ = w.cell? ⟨k, o, none⟩ := fun k o hk =>
    World.cell?_of_block (a := ⟨k, o, none⟩) (hw.block k (hnb k o hk))
  have hother : ∀ i k, φ i = some k → i ≠ id → k ≠ b := fun i k hi hne e => hne (h.inj i id b (e ▸ hi) hb)
  have hcap : ∀ k n, CapOK w k n → CapOK w' k n := fun k n hk => by
    by_cases e : k = b
    · subst e
      rcases hblk with ⟨_, _, _, _, _, _, _, _, _, _, _, _, _, _, _, _, h2⟩ | ⟨blk0, o, h1, hs, _⟩
      · exact h2 n hk
      · obtain ⟨b', o', h3, h4, h6⟩ := h.obj id blk0 h1 (Blk.same_notC' hs)
        rw [hb] at h3; cases h3
        obtain ⟨_, _, _, h5, _⟩ := hk
        rw [h4] at h5; cases h5
        exact absurd rfl h6.notCells
    · exact capOK_of_heap (hw.block k e) hk
  have keep : Keeps w ok L φ w' ok (updL L id blk) φ := by
    refine ⟨fun _ _ h => h, hc, fun i sz ro d c hi => ?_, fun i bb hi hcc => ?_⟩
    · by_cases e : id = i
      · subst e
        rcases hblk with ⟨sz', d1, c1, d', c', vs, rest, e, lo, hi', h1, h2, h3, _⟩ | ⟨blk0, o, h1, h2, _⟩
        · rw [hi] at h1; cases h1
          exact ⟨false, d', c', by simp [updL, h2], by omega, fun _ => ⟨rfl, fun b' n _ hk => hcap b' n hk⟩⟩
        · rw [hi] at h1; cases h1; have := Blk.same_notC' h2; simp [Blk.isC] at this
      · exact ⟨ro, d, c, by simp [updL, e, hi], Nat.le_refl _, fun _ => ⟨rfl, fun b' n _ hk => hcap b' n hk⟩⟩
    · by_cases e : id = i
      · subst e
        rcases hblk with ⟨sz', d1, c1, d', c', vs, rest, e, lo, hi', h1, h2, h3, _⟩ | ⟨blk0, o, h1, h2, _⟩
        · rw [hi] at h1; cases h1; simp [Blk.isC] at hcc
        · rw [hi] at h1; cases h1
          exact ⟨blk, by simp [updL], h2, rfl⟩
      · exact ⟨bb, by simp [updL, e, hi], Blk.same_refl hcc, rfl⟩
  have hk := fun a v hr => R.keep (a := a) (v := v) keep hr
  refine ⟨keep, ⟨?_, ?_, ?_, h.inj, ?_⟩, ?_, fun ho _ => ho, fun _ _ _ _ h => .inl h, fun k hk => ⟨(hw.block k (fun e => hk.name id (by rw [e]; exact hb))).trans hk.at_, hk.name, hk.shut⟩⟩
  · intro i sz ro d c hi
    by_cases e : id = i
    · subst e
      simp only [updL, if_true, Option.some.injEq] at hi
      subst hi
      rcases hblk with ⟨sz', d1, c1, d', c', vs, rest, e, lo, hi', h1, h2, h3, h4, h5, h6, _⟩ | ⟨blk0, o, _, h1, _⟩
      · cases h2
        exact .inr ⟨b, vs, rest, e, lo, hi', hb, h4, h5, h6.keep hk⟩
      · have := Blk.same_notC h1; simp [Blk.isC] at this
    · simp only [updL, if_neg e] at hi
      rcases h.blk i sz ro d c hi with h1 | ⟨b', vs, rest, ee, lo, hi', h1, h2, h3, h4⟩
      · exact .inl h1
      · exact .inr ⟨b', vs, rest, ee, lo, hi', h1, by rw [hw.block b' (hother i b' h1 (Ne.symm e))]; exact h2, h3, h4.keep hk⟩
  · intro i bb hi hcc
    by_cases e : id = i
    · subst e
      simp only [updL, if_true, Option.some.injEq] at hi
      subst hi
      rcases hblk with ⟨sz', d1, c1, d', c', vs, rest, e, lo, hi', h1, h2, _⟩ | ⟨blk0, o, _, h1, h2, h3⟩
      · subst h2; simp [Blk.isC] at hcc
      · exact ⟨b, o, hb, h2, h3.keep hk⟩
    · simp only [updL, if_neg e] at hi
      obtain ⟨b', o', h1, h2, h3⟩ := h.obj i bb hi hcc
      exact ⟨b', o', h1, by rw [hw.block b' (hother i b' h1 (Ne.symm e))]; exact h2, h3.keep hk⟩
  · intro i hi
    by_cases e : id = i
    · subst e; simp [updL] at hi
    · simp only [updL, if_neg e] at hi; exact h.dom i hi
  · intro k o hk'
    obtain ⟨h1, h2⟩ := h.shut k o hk'
    refine ⟨by rw [hw.size]; exact h1, fun i hi => ?_⟩
    have hne : id ≠ i := fun e => by subst e; rw [hb] at hi; cases hi; exact hnb _ _ hk' rfl
    simp only [updL, if_neg hne]; exact h2 i hi
  · intro ho hf
    refine ⟨hw.os.trans hf.os, hw.tape.trans hf.tape, hw.output.trans hf.output, by rw [hw.size]; exact hf.size, fun k hk hx => ?_⟩
    have hne : k ≠ b := fun e => by
      subst e
      rcases ho id k hb with h1 | h1
      · exact hx h1
      · omega
    rw [hw.block k hne]
    exact hf.block k hk hx
end Go.Abs
set_option linter.unusedVariables false
set_option linter.unusedSimpArgs false
namespace Go.Abs
theorem R.refInv {w ok L φ id off len hw v} (h : R w ok L φ (.ref id off len hw) v) : ∃ sz ro d c, L id = some (.cells sz ro d c) ∧ hw ≤ c.length ∧ (∃ a n m, v = .slice a n m) ∧
    (hw = c.length → RefV w φ sz id off len hw v) := by
  cases h with
  | pure _ _ h => cases h
  | ref _ _ _ _ va vn vc sz ro d c hL hle h => exact ⟨sz, ro, d, c, hL, hle, ⟨va, vn, vc, rfl⟩, h⟩
theorem R.ptrInv {w ok L φ id i j hw v} (h : R w ok L φ (.ptr id i j hw) v) : ∃ pa sz ro d c, v = .pointer (some pa) ∧ L id = some (.cells sz ro d c) ∧ hw ≤ c.length ∧
    (hw = c.length → ∃ b, φ id = some b ∧ pa = ⟨b, i * sz + j, none⟩) := by
  cases h with
  | pure _ _ h => cases h
  | ptr _ _ _ _ pa sz ro d c hL hle h => exact ⟨pa, sz, ro, d, c, rfl, hL, hle, h⟩
def rdLen (P : Program) (L : Nat → Option Blk) (t : TypeId) (x : AV) : Option (AV × Prop) :=
  match x with
  | .ref id off len hw => match P.underlying t, L id with
    | some (.slice _), some (.cells _ _ _ c) => some (.int .i64 len, hw = c.length)
    | _, _ => none
  | _ => none
theorem rdLen_ok {P t ty x v' p w ok L φ vx} (h : rdLen P L t x = some (v', p)) (hp : p) (hx : R w ok L φ x vx) :
    ∃ v, (Builtin.len_ #[t] ty #[vx]).run P w = .ok v w ∧ R w ok L φ v' v := by
  unfold rdLen at h
  split at h
  · rename_i id off len hw
    split at h <;> simp only [Option.some.injEq, reduceCtorEq, Prod.mk.injEq] at h
    rename_i el sz ro d c hu hL
    obtain ⟨rfl, rfl⟩ := h
    obtain ⟨sz', ro', d', c', hL', hle, _, hr⟩ := hx.refInv
    rw [hL] at hL'; cases hL'
    obtain ⟨h1, h2⟩ := hr hp
    rcases h2 with ⟨h2, a0, rfl⟩ | ⟨b, cap, a, h2, rfl, _⟩
    · have : len = 0 := by omega
      subst this
      exact ⟨_, by simp [Builtin.len_, run_underlying hu, goInt], .pure _ _ (.int _ _)⟩
    · exact ⟨_, by simp [Builtin.len_, run_underlying hu, goInt], .pure _ _ (.int _ _)⟩
  · simp at h
def rdIndexAddr (P : Program) (L : Nat → Option Blk) (t : TypeId) (x i : AV) : Option (AV × Prop) :=
  match x, i with
  | .ref id off len hw, .int _ n => match P.underlying t, L id with
    | some (.slice el), some (.cells sz _ _ c) => some (.ptr id (off + n.toNat) 0 hw, hw = c.length ∧ 0 ≤ n ∧ n < len ∧ szT P el = some sz)
    | _, _ => none
  | .ptr id i0 0 hw, .int _ n => match P.underlying t, L id with
    | some (.array m el), some (.cells sz _ _ c) => match szT P el with
      | some k => if k = sz then some (.ptr id (i0 + n.toNat) 0 hw, hw = c.length ∧ 0 ≤ n ∧ n < m)
        else if sz = 1 then some (.ptr id (i0 + n.toNat * k) 0 hw, hw = c.length ∧ 0 ≤ n ∧ n < m) else none
      | none => none
    | _, _ => none
  | _, _ => none
theorem rdIndexAddr_ok {P t x i v' p w ok L φ vx vi} (h : rdIndexAddr P L t x i = some (v', p)) (hp : p) (hx : R w ok L φ x vx) (hi : R w ok L φ i vi) :
    ∃ v, (Instr.indexAt t vx vi).run P w = .ok v w ∧ R w ok L φ v' v := by
  unfold rdIndexAddr at h
  split at h
  · rename_i id off len hw k n
    obtain rfl : vi = .int k n := by cases hi with | pure _ _ hi => cases hi; rfl
    split at h <;> simp only [Option.some.injEq, reduceCtorEq, Prod.mk.injEq] at h
    rename_i el sz ro d c hu hL
    obtain ⟨rfl, rfl⟩ := h
    obtain ⟨hw1, h0, h1, hsz⟩ := hp
    obtain ⟨m, rfl⟩ := Int.eq_ofNat_of_zero_le h0
    have hm : m < len := by omega
    obtain ⟨sz', ro', d', c', hL', hle, _, hr⟩ := hx.refInv
    rw [hL] at hL'; cases hL'
    obtain ⟨h2, h3⟩ := hr hw1
    rcases h3 with ⟨h3, _, rfl⟩ | ⟨b, cap, a, h3, rfl, h4, h5, h6⟩
    · omega
    · rcases h6 with h6 | ⟨rfl, h7⟩
      · omega
      · refine ⟨.pointer (some ⟨b, off * sz + m * sz, none⟩), ?_, ?_⟩
        · simp [Instr.indexAt, asIntOf, run_underlying hu, hm, run_sizeOf' hsz, addr_add_plain]
        · exact .ptr id _ 0 hw _ sz ro d c hL hle (fun _ => ⟨b, h3, by simp [Nat.add_mul]⟩)
  · rename_i id i0 hw k n
    obtain rfl : vi = .int k n := by cases hi with | pure _ _ hi => cases hi; rfl
    split at h <;> try (simp at h; done)
    rename_i m el sz ro d c hu hL
    split at h <;> try (simp at h; done)
    rename_i kk hsz
    have main : hw = c.length → 0 ≤ n → n < m → ∀ t', (i0 * sz + 0 + n.toNat * kk = t' * sz + 0) → ∃ v, (Instr.indexAt t vx (.int k n)).run P w = .ok v w ∧ R w ok L φ (.ptr id t' 0 hw) v := by
      intro hw1 h0 h1 t' ht
      obtain ⟨q, rfl⟩ := Int.eq_ofNat_of_zero_le h0
      have hm : q < m := by omega
      obtain ⟨pa, sz', ro', d', c', rfl, hL', hle, hr⟩ := hx.ptrInv
      rw [hL] at hL'; cases hL'
      obtain ⟨b, hb, rfl⟩ := hr hw1
      refine ⟨.pointer (some ⟨b, i0 * sz + 0 + q * kk, none⟩), ?_, ?_⟩
      · simp [Instr.indexAt, asIntOf, run_underlying hu, hm, run_sizeOf' hsz, addr_add_plain, Instr.sureAddr]
      · refine .ptr id _ 0 hw _ sz ro d c hL hle (fun _ => ⟨b, hb, ?_⟩)
        rw [← ht]; simp
    split at h
    · rename_i hk
      subst hk
      simp only [Option.some.injEq, Prod.mk.injEq] at h
      obtain ⟨rfl, rfl⟩ := h
      exact main hp.1 hp.2.1 hp.2.2 _ (by rw [Nat.add_mul]; omega)
    · split at h <;> simp only [Option.some.injEq, reduceCtorEq, Prod.mk.injEq] at h
      rename_i hk
      subst hk
      obtain ⟨rfl, rfl⟩ := h
      exact main hp.1 hp.2.1 hp.2.2 _ (by omega)
  · simp at h
def rdSlice (P : Program) (L : Nat → Option Blk) (t : TypeId) (x : AV) (lo hi mx : Option AV) : Option (AV × Prop) :=
  match x with
  | .ref id off len hw =>
    match P.underlying t, L id, mx with
    | some (.slice el), some (.cells sz _ _ c), none =>
      match lo, hi with
      | none, none => some (.ref id off len hw, hw = c.length ∧ szT P el = some sz)
      | some (.int _ l), none => some (.ref id (off + l.toNat) (len - l.toNat) hw, hw = c.length ∧ szT P el = some sz ∧ 0 ≤ l ∧ l ≤ len)
      | none, some (.int _ h) => some (.ref id off h.toNat hw, hw = c.length ∧ szT P el = some sz ∧ 0 ≤ h ∧ h ≤ len)
      | some (.int _ l), some (.int _ h) => some (.ref id (off + l.toNat) (h.toNat - l.toNat) hw, hw = c.length ∧ szT P el = some sz ∧ 0 ≤ l ∧ l ≤ h ∧ h ≤ len)
      | _, _ => none
    | _, _, _ => none
  | .ptr id 0 0 hw =>
    match P.underlying t, L id, mx with
    | some (.array n el), some (.cells sz _ _ c), none =>
      match lo, hi with
      | some (.int _ l), none => some (.ref id l.toNat (n - l.toNat) hw, hw = c.length ∧ szT P el = some sz ∧ n = c.length ∧ n ≤ maxInt ∧ 0 ≤ l ∧ l ≤ n)
      | _, _ => none
    | _, _, _ => none
  | _ => none
theorem RefV.sub {w φ sz id off len hw a n cap} (h : RefV w φ sz id off len hw (.slice a n cap)) (lo hi : Nat) (h1 : lo ≤ hi) (h2 : hi ≤ len) :
    n = len ∧ hi ≤ cap ∧ RefV w φ sz id (off + lo) (hi - lo) hw (.slice (if cap = lo then a else a.map (·.add (lo * sz))) (hi - lo) (cap - lo)) := by
  obtain ⟨g1, g2⟩ := h
  rcases g2 with ⟨g2, a1, g3⟩ | ⟨b, cap', a', g2, g3, g4, g5, g6⟩
  · cases g3
    obtain rfl : len = 0 := by omega
    obtain rfl : hi = 0 := by omega
    obtain rfl : lo = 0 := by omega
    exact ⟨rfl, Nat.le_refl _, by omega, .inl ⟨g2, a, by simp⟩⟩
  · cases g3
    refine ⟨rfl, by omega, by omega, .inr ⟨b, cap - lo, if cap = lo then a' else a'.add (lo * sz), g2, ?_, by omega, by omega, ?_⟩⟩
    · split <;> simp
    · by_cases e : cap = lo
      · exact .inl (by omega)
      · rw [if_neg e]
        rcases g6 with g6 | ⟨rfl, g7⟩
        · omega
        · refine .inr ⟨by rw [addr_add_plain, Nat.add_mul], ?_⟩
          rw [show off + lo + (cap - lo) = off + cap by omega]
          exact g7
theorem rdSlice_ok {P t x lo hi mx v' p w ok L φ vx vlo vhi vmx} (h : rdSlice P L t x lo hi mx = some (v', p)) (hp : p) (hh : HeapOK w ok L φ) (hx : R w ok L φ x vx)
    (hlo : ∀ k n, lo = some (.int k n) → vlo = some (.int k n)) (hlo' : lo = none → vlo = none)
    (hhi : ∀ k n, hi = some (.int k n) → vhi = some (.int k n)) (hhi' : hi = none → vhi = none)
    (hmx : ∀ k n, mx = some (.int k n) → vmx = some (.int k n)) (hmx' : mx = none → vmx = none) :
    ∃ v, (Instr.sliceAt t vx vlo vhi vmx).run P w = .ok v w ∧ R w ok L φ v' v := by
  unfold rdSlice at h
  split at h
  · rename_i id off len hw
    split at h
    · rename_i el sz ro d c hu hL
      obtain rfl := hmx' rfl
      obtain ⟨sz', ro', d', c', hL', hle, ⟨a, n, cap, rfl⟩, hr⟩ := hx.refInv
      rw [hL] at hL'; cases hL'
      split at h <;> simp only [Option.some.injEq, reduceCtorEq, Prod.mk.injEq] at h
      · obtain ⟨rfl, rfl⟩ := h
        obtain rfl := hlo' rfl; obtain rfl := hhi' rfl
        obtain ⟨hw1, hsz⟩ := hp
        obtain ⟨rfl, hcap, hv⟩ := (hr hw1).sub 0 len (Nat.zero_le _) (Nat.le_refl _)
        refine ⟨_, ?_, .ref id off n hw _ _ _ sz ro d c hL hle (fun _ => by simpa using hv)⟩
        simp [Instr.sliceAt, Instr.slice, run_underlying hu, Instr.sliceBounds, run_sizeOf' hsz]
      · rename_i k l
        obtain ⟨rfl, rfl⟩ := h
        obtain rfl := hlo _ _ rfl; obtain rfl := hhi' rfl
        obtain ⟨hw1, hsz, h0, h1⟩ := hp
        obtain ⟨rfl, hcap, hv⟩ := (hr hw1).sub l.toNat len (by omega) (Nat.le_refl _)
        refine ⟨_, ?_, .ref id _ _ hw _ _ _ sz ro d c hL hle (fun _ => hv)⟩
        simp [Instr.sliceAt, Instr.slice, run_underlying hu, Instr.sliceBounds, run_sizeOf' hsz, run_sliceBound _ _ _ _ _ h0 h1]
      · rename_i k h'
        obtain ⟨rfl, rfl⟩ := h
        obtain rfl := hlo' rfl; obtain rfl := hhi _ _ rfl
        obtain ⟨hw1, hsz, h0, h1⟩ := hp
        obtain ⟨rfl, hcap, hv⟩ := (hr hw1).sub 0 h'.toNat (by omega) (by omega)
        have h2 : h' ≤ (cap : Nat) := by omega
        refine ⟨_, ?_, .ref id _ _ hw _ _ _ sz ro d c hL hle (fun _ => by simpa using hv)⟩
        simp [Instr.sliceAt, Instr.slice, run_underlying hu, Instr.sliceBounds, run_sizeOf' hsz, run_sliceBound _ _ _ _ _ h0 h2]
      · rename_i k l k' h'
        obtain ⟨rfl, rfl⟩ := h
        obtain rfl := hlo _ _ rfl; obtain rfl := hhi _ _ rfl
        obtain ⟨hw1, hsz, h0, h1, h1'⟩ := hp
        obtain ⟨rfl, hcap, hv⟩ := (hr hw1).sub l.toNat h'.toNat (by omega) (by omega)
        have h2 : h' ≤ (cap : Nat) := by omega
        have h3 : l ≤ (h'.toNat : Nat) := by omega
        have h4 : (0 : Int) ≤ h' := by omega
        refine ⟨_, ?_, .ref id _ _ hw _ _ _ sz ro d c hL hle (fun _ => hv)⟩
        simp [Instr.sliceAt, Instr.slice, run_underlying hu, Instr.sliceBounds, run_sizeOf' hsz, run_sliceBound _ _ _ _ _ h4 h2, run_sliceBound _ _ _ _ _ h0 h3]
    · simp at h
  · rename_i id hw
    split at h
    · rename_i n el sz ro d c hu hL
      obtain rfl := hmx' rfl
      obtain ⟨pa, sz', ro', d', c', rfl, hL', hle, hr⟩ := hx.ptrInv
      rw [hL] at hL'; cases hL'
      have capok : ∀ b, φ id = some b → CapOK w b (c.length * sz) := fun b hb => by
        rcases hh.live hb with ⟨sz1, ro1, d1, c1, vs, rest, e, lo', hi', h1, h2, h3, h4⟩ | ⟨blk1, o1, h1, _, ho1⟩
        · rw [hL] at h1; cases h1
          exact ⟨_, _, _, h2, by simp [h4.1]⟩
        · rw [hL] at h1; cases h1; cases ho1
      split at h <;> simp only [Option.some.injEq, reduceCtorEq, Prod.mk.injEq] at h
      · rename_i k l
        obtain ⟨rfl, rfl⟩ := h
        obtain rfl := hlo _ _ rfl; obtain rfl := hhi' rfl
        obtain ⟨hw1, hsz, hn, hmx, h0, h1⟩ := hp
        obtain ⟨b, hb, rfl⟩ := hr hw1
        have hmx' : n ≤ maxLen := by simpa [maxLen, maxInt] using hmx
        refine ⟨.slice (some (if n = l.toNat then ⟨b, 0, none⟩ else ⟨b, l.toNat * sz, none⟩)) (n - l.toNat) (n - l.toNat), ?_,
          .ref id _ _ hw _ _ _ sz ro d c hL hle (fun _ => ⟨by omega, .inr ⟨b, n - l.toNat, _, hb, rfl, Nat.le_refl _, by omega, ?_⟩⟩)⟩
        · simp [Instr.sliceAt, run_underlying hu, Instr.sureAddr, Instr.sliceBounds, run_sizeOf' hsz, run_sliceBound _ _ _ _ _ h0 h1, addr_add_plain]
        · by_cases e : n = l.toNat
          · exact .inl (by omega)
          · rw [if_neg e]
            refine .inr ⟨rfl, ?_⟩
            rw [show l.toNat + (n - l.toNat) = c.length by omega]
            exact capok b hb
    · simp at h
  · simp at h
theorem run_loadCells' {P : Program} {w : World} {b o : Nat} (vs : List Value) (h : ∀ (j : Nat) (v : Value), vs[j]? = some v → w.cell? ⟨b, o + j, none⟩ = some v) :
    (loadCells ⟨b, o, none⟩ vs.length).run P w = .ok vs.toArray w :=
  run_loadCells_list w ⟨b, o, none⟩ vs (fun j v hj => by rw [addr_add_plain]; exact h j v hj)
def rdLoad0 (P : Program) (L : Nat → Option Blk) (t : TypeId) (x : AV) : Option (AV × Prop) :=
  match x with
  | .radr cs => match aggT P t, szT P t with
    | some false, _ => some (cs.getD 0 .any, 0 < cs.length)
    | some true, some n => some (.agg (cs.take n), n ≤ cs.length)
    | _, _ => none
  | .ptr id i j hw => match L id with
    | some (.cells sz _ d c) => match P.underlying t with
      | some (.array n el) => if aggT P el = some false ∧ sz = 1 ∧ szT P el = some 1 then some (.agg (c.flatMap AV.cells), hw = c.length ∧ n = c.length ∧ i = 0 ∧ j = 0 ∧ szT P t = some n)
        else if sz = 1 then some (.agg (c.flatMap AV.cells), hw = c.length ∧ i = 0 ∧ j = 0 ∧ szT P t = some c.length) else none
      | _ => match aggT P t, szT P t with
        | some false, _ => some ((c.getD i d).cells.getD j .any, hw = c.length ∧ i < c.length ∧ j < sz)
        | some true, some n => some (.agg (((c.getD i d).cells.drop j).take n), hw = c.length ∧ i < c.length ∧ j + n ≤ sz)
        | _, _ => none
    | _ => none
  | _ => none
theorem RE.flat {w ok L φ c vs} (h : RE w ok L φ 1 c vs) : RC w ok L φ (c.flatMap AV.cells) vs := by
  have hc : ∀ x ∈ c, ∃ y, x.cells = [y] := fun x hx => by
    obtain ⟨i, hi, rfl⟩ := List.mem_iff_getElem.1 hx
    have := h.2.1 i _ (List.getElem?_eq_getElem hi)
    exact List.length_eq_one_iff.1 this
  have hget : ∀ (l : List AV), (∀ x ∈ l, ∃ y, x.cells = [y]) → ∀ (i : Nat) (y : AV), (l.flatMap AV.cells)[i]? = some y → ∃ x, l[i]? = some x ∧ x.cells = [y] := by
    intro l
    induction l with
    | nil => intro _ i y hy; simp at hy
    | cons a l ih =>
      intro hl i y hy
      obtain ⟨z, hz⟩ := hl a (by simp)
      simp only [List.flatMap_cons, hz, List.singleton_append] at hy
      cases i with
      | zero => simp at hy; subst hy; exact ⟨a, by simp, hz⟩
      | succ i => simp at hy; obtain ⟨x, h1, h2⟩ := ih (fun x hx => hl x (by simp [hx])) i y hy; exact ⟨x, by simpa using h1, h2⟩
  have hlen : (c.flatMap AV.cells).length = c.length := by
    have : ∀ (l : List AV), (∀ x ∈ l, ∃ y, x.cells = [y]) → (l.flatMap AV.cells).length = l.length := by
      intro l
      induction l with
      | nil => intro _; rfl
      | cons a l ih =>
        intro hl
        obtain ⟨z, hz⟩ := hl a (by simp)
        simp only [List.flatMap_cons, hz, List.length_append, List.length_cons, List.length_nil, ih (fun x hx => hl x (by simp [hx]))]
        omega
    exact this c hc
  obtain ⟨l1, s1, r1⟩ := h
  simp only [Nat.mul_one] at l1 r1
  refine ⟨by rw [l1, hlen], fun i v hv => ?_, fun i a v ha hv => ?_⟩
  · have hi : i < c.length := by rw [← l1]; exact (List.getElem?_eq_some_iff.1 hv).1
    obtain ⟨y, hy⟩ := hc c[i] (List.getElem_mem hi)
    obtain ⟨u, h1, h2, _⟩ := r1 i _ 0 y (List.getElem?_eq_getElem hi) (by rw [hy]; rfl)
    simp only [Nat.add_zero] at h1
    rw [hv] at h1; cases h1; exact h2
  · obtain ⟨x, hx, hxy⟩ := hget c hc i a ha
    obtain ⟨u, h1, _, h3⟩ := r1 i x 0 a hx (by rw [hxy]; rfl)
    simp only [Nat.add_zero] at h1
    rw [hv] at h1; cases h1; exact h3
theorem rdLoad0_ok {P t x v' p w ok L φ vx} (h : rdLoad0 P L t x = some (v', p)) (hp : p) (hh : HeapOK w ok L φ) (hx : R w ok L φ x vx) :
    ∃ v, (Instr.loadAt t vx).run P w = .ok v w ∧ R w ok L φ v' v := by
  unfold rdLoad0 at h
  split at h
  · rename_i cs
    obtain ⟨b, off, cv, rfl, h1, h2⟩ : ∃ b off, ∃ cv : Nat → Value, vx = .pointer (some ⟨b, off, none⟩) ∧
        (∀ (j : Nat) (y : AV), cs[j]? = some y → ok b (off + j) ∧ w.cell? ⟨b, off + j, none⟩ = some (cv j) ∧ (cv j).oneCell' = true) ∧
        (∀ (j : Nat) (y : AV), cs[j]? = some y → Rp w ok y (cv j)) := by
      cases hx with
      | pure _ _ hx => cases hx with | radr _ b off cv h1 h2 => exact ⟨b, off, cv, rfl, h1, h2⟩
    split at h <;> simp only [Option.some.injEq, reduceCtorEq, Prod.mk.injEq] at h
    · rename_i s hag
      obtain ⟨rfl, rfl⟩ := h
      have hg : cs[0]? = some cs[0] := List.getElem?_eq_getElem hp
      obtain ⟨_, h3, _⟩ := h1 0 _ hg
      simp only [Nat.add_zero] at h3
      refine ⟨cv 0, ?_, .pure _ _ ?_⟩
      · simp [Instr.loadAt, Instr.sureAddr, loadVar, run_isAgg' hag, h3]
      · have := h2 0 _ hg
        simpa [List.getD_eq_getElem?_getD, hg] using this
    · rename_i n hag hsz
      obtain ⟨rfl, rfl⟩ := h
      let us := (List.range n).map cv
      have hus : us.length = n := by simp [us]
      have hu : ∀ (j : Nat) (v : Value), us[j]? = some v → j < n ∧ v = cv j := by
        intro j v hj
        have hlt : j < n := by rw [← hus]; exact (List.getElem?_eq_some_iff.1 hj).1
        refine ⟨hlt, ?_⟩
        simp [us, List.getElem?_map, List.getElem?_range hlt] at hj
        exact hj.symm
      have hcell := run_loadCells' (P := P) (w := w) (b := b) (o := off) us (fun j v hj => by
        obtain ⟨hlt, rfl⟩ := hu j v hj
        exact (h1 j _ (List.getElem?_eq_getElem (by omega))).2.1)
      rw [hus] at hcell
      refine ⟨.agg us.toArray, ?_, .agg _ us (by rw [hus, List.length_take]; omega) (fun j v hj => ?_) (fun j a v ha hj => ?_)⟩
      · simp [Instr.loadAt, Instr.sureAddr, loadVar, run_isAgg' hag, run_sizeOf' hsz, hcell]
      · obtain ⟨hlt, rfl⟩ := hu j v hj
        exact (h1 j _ (List.getElem?_eq_getElem (by omega))).2.2
      · obtain ⟨hlt, rfl⟩ := hu j v hj
        rw [List.getElem?_take, if_pos hlt] at ha
        exact .pure _ _ (h2 j a ha)
  · rename_i id i j hw
    obtain ⟨pa, sz, ro, d, c, rfl, hL, hle, hr⟩ := hx.ptrInv
    rw [hL] at h
    simp only at h
    have live : hw = c.length → 0 < c.length → ∃ b vs rest e fz, φ id = some b ∧ pa = ⟨b, i * sz + j, none⟩ ∧ w.heap[b]? = some (.cells (vs ++ rest).toArray e fz) ∧ RE w ok L φ sz c vs := by
      intro hc _
      obtain ⟨b, hb, rfl⟩ := hr hc
      rcases hh.live hb with ⟨sz1, ro1, d1, c1, vs, rest, e, lo', hi', h1, h2, h3, h4⟩ | ⟨blk1, o1, h1, _, ho1⟩
      · rw [hL] at h1; cases h1
        exact ⟨b, vs, rest, e, _, hb, rfl, h2, h4⟩
      · rw [hL] at h1; cases h1; cases ho1
    split at h
    · rename_i n el hu
      have key : ∀ n, sz = 1 → hw = c.length ∧ n = c.length ∧ i = 0 ∧ j = 0 ∧ szT P t = some n → ∃ v, (Instr.loadAt t (.pointer (some pa))).run P w = .ok v w ∧ R w ok L φ (.agg (c.flatMap AV.cells)) v := by
        intro n hsz1 hq
        subst hsz1
        obtain ⟨hw1, hn, rfl, rfl, hszt⟩ := hq
        have hagt : aggT P t = some true := by simp [aggT, hu]
        by_cases hc0 : 0 < c.length
        · obtain ⟨b, vs, rest, e, fz, hb, rfl, h2, h4⟩ := live hw1 hc0
          have hlen : vs.length = n := by have := h4.1; omega
          have hcell := run_loadCells' (P := P) (w := w) (b := b) (o := 0) vs (fun k v hk => by
            rw [cell_blk h2]
            have hlt := (List.getElem?_eq_some_iff.1 hk).1
            simp [List.getElem?_append_left hlt, hk])
          rw [hlen] at hcell
          have hrc := h4.flat
          refine ⟨.agg vs.toArray, ?_, .agg _ vs hrc.1 hrc.2.1 hrc.2.2⟩
          simp [Instr.loadAt, Instr.sureAddr, loadVar, run_isAgg' hagt, run_sizeOf' hszt, hcell]
        · have hc : c = [] := List.eq_nil_of_length_eq_zero (by omega)
          subst hc
          simp at hn
          subst hn
          refine ⟨.agg #[], ?_, .agg _ [] rfl (by simp) (by simp)⟩
          simp [Instr.loadAt, Instr.sureAddr, loadVar, run_isAgg' hagt, run_sizeOf' hszt, loadCells, loadCellsFrom]
      split at h
      · rename_i hcond
        simp only [Option.some.injEq, Prod.mk.injEq] at h
        obtain ⟨rfl, rfl⟩ := h
        exact key n hcond.2.1 hp
      · split at h <;> simp only [Option.some.injEq, reduceCtorEq, Prod.mk.injEq] at h
        rename_i hsz1
        obtain ⟨rfl, rfl⟩ := h
        exact key _ hsz1 ⟨hp.1, rfl, hp.2⟩
    · split at h <;> simp only [Option.some.injEq, reduceCtorEq, Prod.mk.injEq] at h
      · rename_i s hag
        obtain ⟨rfl, rfl⟩ := h
        obtain ⟨hw1, hi, hj⟩ := hp
        obtain ⟨b, vs, rest, e, fz, hb, rfl, h2, h4⟩ := live hw1 (by omega)
        have hci : c[i]? = some c[i] := List.getElem?_eq_getElem hi
        have hcl := h4.2.1 i _ hci
        have hcj : c[i].cells[j]? = some c[i].cells[j] := List.getElem?_eq_getElem (by omega)
        obtain ⟨v, hv1, hv2, hv3⟩ := h4.2.2 i _ j _ hci hcj
        have hcell : w.cell? ⟨b, i * sz + j, none⟩ = some v := by
          rw [cell_blk h2]
          have hlt := (List.getElem?_eq_some_iff.1 hv1).1
          simp [List.getElem?_append_left hlt, hv1]
        refine ⟨v, by simp [Instr.loadAt, Instr.sureAddr, loadVar, run_isAgg' hag, hcell], ?_⟩
        simpa [List.getD_eq_getElem?_getD, hci, hcj] using hv3
      · rename_i n hag hsz
        obtain ⟨rfl, rfl⟩ := h
        obtain ⟨hw1, hi, hj⟩ := hp
        obtain ⟨b, vs, rest, e, fz, hb, rfl, h2, h4⟩ := live hw1 (by omega)
        have hci : c[i]? = some c[i] := List.getElem?_eq_getElem hi
        have hcl := h4.2.1 i _ hci
        have hgd : c.getD i d = c[i] := by simp [List.getD_eq_getElem?_getD, hci]
        let us := (vs.drop (i * sz + j)).take n
        have hlen : us.length = n := by
          simp only [us, List.length_take, List.length_drop, h4.1]
          have := Nat.mul_le_mul_right sz (show i + 1 ≤ c.length by omega)
          rw [Nat.add_mul, Nat.one_mul] at this
          omega
        have hus : ∀ (k : Nat) (v : Value), us[k]? = some v → k < n ∧ vs[i * sz + (j + k)]? = some v := by
          intro k v hk
          have hlt : k < n := by rw [← hlen]; exact (List.getElem?_eq_some_iff.1 hk).1
          refine ⟨hlt, ?_⟩
          simp only [us, List.getElem?_take, if_pos hlt, List.getElem?_drop] at hk
          rw [← Nat.add_assoc]; exact hk
        have hcell := run_loadCells' (P := P) (w := w) (b := b) (o := i * sz + j) us (fun k v hk => by
          obtain ⟨_, hv⟩ := hus k v hk
          rw [cell_blk h2]
          have hlt := (List.getElem?_eq_some_iff.1 hv).1
          rw [show i * sz + j + k = i * sz + (j + k) by omega]
          simp [List.getElem?_append_left hlt, hv])
        rw [hlen] at hcell
        have hone : ∀ (k : Nat) (v : Value), us[k]? = some v → ∃ y, c[i].cells[j + k]? = some y ∧ v.oneCell' = true ∧ R w ok L φ y v := by
          intro k v hk
          obtain ⟨hlt, hv⟩ := hus k v hk
          have hcj : c[i].cells[j + k]? = some c[i].cells[j + k] := List.getElem?_eq_getElem (by omega)
          obtain ⟨v', hv1, hv2, hv3⟩ := h4.2.2 i _ (j + k) _ hci hcj
          rw [hv] at hv1; cases hv1
          exact ⟨_, hcj, hv2, hv3⟩
        refine ⟨.agg us.toArray, ?_, .agg _ us ?_ (fun k v hk => ?_) (fun k a v ha hk => ?_)⟩
        · simp [Instr.loadAt, Instr.sureAddr, loadVar, run_isAgg' hag, run_sizeOf' hsz, hcell]
        · rw [hgd, hlen, List.length_take, List.length_drop, hcl]; omega
        · obtain ⟨y, _, h5, _⟩ := hone k v hk; exact h5
        · obtain ⟨y, h5, _, h6⟩ := hone k v hk
          rw [hgd, List.getElem?_take, if_pos (hus k v hk).1, List.getElem?_drop, h5] at ha
          cases ha; exact h6
      all_goals simp at h
  · simp at h
def norm1 (L : Nat → Option Blk) : AV → AV
  | .ptr id i (j + 1) hw => match L id with
    | some (.cells 1 _ _ _) => .ptr id (i + (j + 1)) 0 hw
    | _ => .ptr id i (j + 1) hw
  | x => x
theorem norm1_ptr0 {L : Nat → Option Blk} {id i hw : Nat} : norm1 L (.ptr id i 0 hw) = .ptr id i 0 hw := rfl
theorem R.norm1 {w : World} {ok : Nat → Nat → Prop} {L : Nat → Option Blk} {φ : Nat → Option Nat} {x : AV} {v : Value} (h : R w ok L φ x v) : R w ok L φ (norm1 L x) v := by
  unfold Abs.norm1
  split
  · rename_i id i j hw
    split
    · rename_i ro d c hL
      obtain ⟨pa, sz', ro', d', c', rfl, hL', hle, hr⟩ := h.ptrInv
      rw [hL] at hL'; cases hL'
      refine .ptr id _ 0 hw _ 1 ro d c hL hle (fun e => ?_)
      obtain ⟨b, h1, h2⟩ := hr e
      exact ⟨b, h1, by rw [h2]; simp⟩
    · exact h
  · exact h
def rdLoad (P : Program) (L : Nat → Option Blk) (t : TypeId) (x : AV) : Option (AV × Prop) := rdLoad0 P L t (norm1 L x)
theorem rdLoad_ok {P t x v' p w ok L φ vx} (h : rdLoad P L t x = some (v', p)) (hp : p) (hh : HeapOK w ok L φ) (hx : R w ok L φ x vx) :
    ∃ v, (Instr.loadAt t vx).run P w = .ok v w ∧ R w ok L φ v' v := rdLoad0_ok h hp hh hx.norm1
theorem rdLoad_congr {P : Program} {L L' : Nat → Option Blk} {t : TypeId} {id i j hw : Nat} (hL : L id = L' id) : rdLoad P L t (.ptr id i j hw) = rdLoad P L' t (.ptr id i j hw) := by
  have e : norm1 L (.ptr id i j hw) = norm1 L' (.ptr id i j hw) := by cases j <;> simp only [norm1, hL]
  have k : ∀ i j, rdLoad0 P L t (.ptr id i j hw) = rdLoad0 P L' t (.ptr id i j hw) := fun i j => by simp only [rdLoad0, hL]
  simp only [rdLoad, e]
  cases j with
  | zero => exact k i 0
  | succ j =>
    simp only [norm1]
    split <;> exact k _ _
end Go.Abs
end
section
set_option linter.unusedVariables false
set_option linter.unusedSimpArgs false
namespace Go.Abs
def EffOK (P : Program) (w0 : World) (X : Nat → Prop) (s : Sem Value) (L : Nat → Option Blk) (ok : Nat → Nat → Prop) (φ : Nat → Option Nat) (w : World) (v' : AV) (id : Nat) (blk : Blk) : Prop :=
  ∃ v w' φ', s.run P w = .ok v w' ∧ Ext w0 X L ok φ w (updL L id blk) ok φ' w' ∧ R w' ok (updL L id blk) φ' v' v
def one1 : AV → Bool := fun x => x.one || (match x with | .any => true | _ => false)
theorem one1_cells {x : AV} (h : one1 x = true) : x.cells = [x] := by cases x <;> simp_all [one1, AV.one, AV.cells]
theorem RC.re1 {w ok L φ cs vs} (h : RC w ok L φ cs vs) (h1 : ∀ x ∈ cs, x.cells = [x]) : RE w ok L φ 1 cs vs := by
  obtain ⟨l, o, r⟩ := h
  refine ⟨by simp [l], fun i x hx => by rw [h1 x (List.mem_of_getElem? hx)]; rfl, fun i x j y hx hy => ?_⟩
  rw [h1 x (List.mem_of_getElem? hx)] at hy
  cases j with
  | succ j => simp at hy
  | zero =>
    simp at hy; subst hy
    have hi : i < vs.length := by rw [l]; exact (List.getElem?_eq_some_iff.1 hx).1
    refine ⟨vs[i], by simp, o i _ (List.getElem?_eq_getElem hi), r i _ _ hx (List.getElem?_eq_getElem hi)⟩
def arrT (P : Program) (t : TypeId) : Bool := match P.underlying t with | some (.array ..) => true | _ => false
def efStore (P : Program) (L : Nat → Option Blk) (t : TypeId) (x v : AV) : Option (AV × Nat × Blk × Prop) :=
  match x with
  | .ptr id i j hw => match L id with
    | some (.cells sz false d c) => match szT P t with
      | some n => match arrT P t with
        | true => some (.any, id, .cells sz false d v.cells, hw = c.length ∧ i = 0 ∧ j = 0 ∧ sz = 1 ∧ n = c.length ∧ v.flat = true ∧ v.cells.length = n ∧ v.cells.all one1 = true ∧ notFz d = true)
        | false => some (.any, id, .cells sz false d (c.set i (if n = sz then v else .agg (setAt (c.getD i d).cells j v.cells))),
          hw = c.length ∧ i < c.length ∧ j + n ≤ sz ∧ v.flat = true ∧ v.cells.length = n ∧ notFz d = true)
      | none => none
    | _ => none
  | _ => none
theorem efStore_ok {P t x y v' id blk p w ok L φ vx vy w0 X} (h : efStore P L t x y = some (v', id, blk, p)) (hp : p) (hh : HeapOK w ok L φ) (hx : R w ok L φ x vx) (hy : R w ok L φ y vy) :
    ∃ w' φ', (Instr.storeAt t vx vy).run P w = .ok () w' ∧ Ext w0 X L ok φ w (updL L id blk) ok φ' w' := by
  unfold efStore at h
  split at h
  · rename_i id' i j hw
    split at h
    · rename_i sz d c hL
      split at h
      case h_2 => simp at h
      rename_i n hsz
      cases harr : arrT P t <;> rw [harr] at h <;> simp only [Option.some.injEq, reduceCtorEq, Prod.mk.injEq] at h
      case true =>
        obtain ⟨rfl, rfl, rfl, rfl⟩ := h
        obtain ⟨hw1, rfl, rfl, rfl, hnc, hfl, hvn, hall, hnf⟩ := hp
        obtain ⟨pa, sz', ro', d', c', rfl, hL', hle, hr⟩ := hx.ptrInv
        rw [hL] at hL'; cases hL'
        obtain ⟨b, hb, rfl⟩ := hr hw1
        rcases hh.live hb with ⟨sz1, ro1, d1, c1, vs, rest, e, lo', hi', h1, h2, h3, h4⟩ | ⟨blk1, o1, h1, _, ho1⟩
        · rw [hL] at h1; cases h1
          have hrc := hy.rcf hfl
          have hvl : vy.cells.toList.length = n := by rw [hrc.1, hvn]
          have hvs : vy.cells.size = n := by rw [← hvl]; simp
          have hvlen : vs.length = n := by rw [h4.1]; omega
          have hone : ∀ u ∈ vy.cells.toList, u.oneCell' = true := fun u hu => hy.flat hfl u (by simpa using hu)
          obtain ⟨w', h5, h6, h7⟩ := run_storeCells_blk (P := P) b 0 e lo' hi' vy.cells.toList 0 (vs ++ rest) w h2 (h3.1 hnf) (by simp only [List.length_append, hvl]; omega) hone
          simp only [Nat.add_zero, hvl, Nat.zero_add, List.take_zero, List.nil_append] at h7
          rw [List.drop_append_of_le_length (by omega), List.drop_of_length_le (by omega), List.nil_append] at h7
          have hre : RE w ok L φ 1 y.cells vy.cells.toList := hrc.re1 (fun x hx => one1_cells (List.all_eq_true.1 hall x hx))
          refine ⟨w', φ, ?_, Ext.wrote hh hb h6 (.inl ⟨1, d, c, d, _, _, rest, e, lo', hi', hL, rfl, by omega, h7, ⟨fun _ k hk => h3.1 hnf k ?_, h3.2⟩, hre, fun m hm' => ?_⟩)⟩
          · simp [Instr.storeAt, Instr.sureAddr, storeVar, hvs, run_sizeOf' hsz, h5]
          · simp only [List.length_append, hvl] at hk ⊢; omega
          · obtain ⟨cur, e', fz, h8, h9⟩ := hm'
            rw [h2] at h8; cases h8
            refine ⟨_, _, _, h7, ?_⟩
            simp only [List.size_toArray, List.length_append, hvl] at h9 ⊢; omega
        · rw [hL] at h1; cases h1; cases ho1
      obtain ⟨rfl, rfl, rfl, rfl⟩ := h
      obtain ⟨hw1, hi, hj, hfl, hvn, hnf⟩ := hp
      obtain ⟨pa, sz', ro', d', c', rfl, hL', hle, hr⟩ := hx.ptrInv
      rw [hL] at hL'; cases hL'
      obtain ⟨b, hb, rfl⟩ := hr hw1
      rcases hh.live hb with ⟨sz1, ro1, d1, c1, vs, rest, e, lo', hi', h1, h2, h3, h4⟩ | ⟨blk1, o1, h1, _, ho1⟩
      · rw [hL] at h1; cases h1
        have hrc := hy.rcf hfl
        have hvl : vy.cells.toList.length = n := by rw [hrc.1, hvn]
        have hvs : vy.cells.size = n := by rw [← hvl]; simp
        have hm := Nat.mul_le_mul_right sz (show i + 1 ≤ c.length by omega)
        rw [Nat.add_mul, Nat.one_mul] at hm
        have hvlen := h4.1
        have hone : ∀ u ∈ vy.cells.toList, u.oneCell' = true := fun u hu => hy.flat hfl u (by simpa using hu)
        obtain ⟨w', h5, h6, h7⟩ := run_storeCells_blk (P := P) b (i * sz + j) e lo' hi' vy.cells.toList 0 (vs ++ rest) w h2 (h3.1 hnf) (by simp only [List.length_append, hvl]; omega) hone
        simp only [Nat.add_zero, hvl] at h7
        -- the new element
        have hci : c[i]? = some c[i] := List.getElem?_eq_getElem hi
        have hgd : c.getD i d = c[i] := by simp [List.getD_eq_getElem?_getD, hci]
        have hold : RC w ok L φ c[i].cells ((vs.drop (i * sz)).take sz) := by
          refine ⟨?_, fun k v hk => ?_, fun k a v ha hk => ?_⟩
          · rw [h4.2.1 i _ hci, List.length_take, List.length_drop]; omega
          · have hk' : k < sz := by
              have := (List.getElem?_eq_some_iff.1 hk).1
              rw [List.length_take] at this; omega
            rw [List.getElem?_take, if_pos hk', List.getElem?_drop] at hk
            obtain ⟨u, h8, h9, _⟩ := h4.2.2 i _ k _ hci (List.getElem?_eq_getElem (by rw [h4.2.1 i _ hci]; exact hk'))
            rw [hk] at h8; cases h8; exact h9
          · have hk' : k < sz := by
              have := (List.getElem?_eq_some_iff.1 hk).1
              rw [List.length_take] at this; omega
            rw [List.getElem?_take, if_pos hk', List.getElem?_drop] at hk
            obtain ⟨u, h8, _, h9⟩ := h4.2.2 i _ k _ hci ha
            rw [hk] at h8; cases h8; exact h9
        have hnew : ∃ us, RE w ok L φ sz [if n = sz then y else .agg (setAt (c.getD i d).cells j y.cells)] us ∧ us.length = sz ∧
            vs.take (i * sz) ++ (us ++ vs.drop (i * sz + sz)) = vs.take (i * sz + j) ++ (vy.cells.toList ++ vs.drop (i * sz + j + n)) := by
          by_cases e1 : n = sz
          · rw [if_pos e1]
            have hj0 : j = 0 := by omega
            subst hj0
            refine ⟨vy.cells.toList, ?_, by omega, by simp [e1]⟩
            have := RE.one (x := y) hrc.1 hrc.2.1 hrc.2.2
            rwa [hvn, e1] at this
          · rw [if_neg e1, hgd]
            have hs := hold.setAt hrc j
            refine ⟨((vs.drop (i * sz)).take sz).take j ++ (vy.cells.toList ++ ((vs.drop (i * sz)).take sz).drop (j + vy.cells.toList.length)), ?_, ?_, ?_⟩
            · have hlen : (AV.agg (setAt c[i].cells j y.cells)).cells.length = sz := by
                show (setAt c[i].cells j y.cells).length = sz
                unfold setAt
                simp only [List.length_append, List.length_take, List.length_drop, h4.2.1 i _ hci, hvn]; omega
              have := RE.one (x := .agg (setAt c[i].cells j y.cells)) (w := w) (ok := ok) (L := L) (φ := φ) (by simpa [AV.cells] using hs.1) hs.2.1 (by simpa [AV.cells] using hs.2.2)
              rwa [hlen] at this
            · simp only [List.length_append, List.length_take, List.length_drop, hvl]; omega
            · rw [hvl, List.take_take, Nat.min_eq_left (by omega), List.drop_take, List.drop_drop]
              have h10 : vs.take (i * sz) ++ (vs.drop (i * sz)).take j = vs.take (i * sz + j) := (List.take_add).symm
              have h11 : (vs.drop (i * sz + (j + n))).take (sz - (j + n)) ++ vs.drop (i * sz + sz) = vs.drop (i * sz + j + n) := by
                have e2 : vs.drop (i * sz + sz) = (vs.drop (i * sz + (j + n))).drop (sz - (j + n)) := by rw [List.drop_drop]; congr 1; omega
                rw [e2, Nat.add_assoc]
                exact List.take_append_drop _ _
              rw [← h10, ← h11]
              simp [List.append_assoc]
        obtain ⟨us, hre1, hul, heq⟩ := hnew
        have hre := h4.set i hi hre1
        rw [hul, heq] at hre
        have hsplit : (vs ++ rest).take (i * sz + j) ++ (vy.cells.toList ++ (vs ++ rest).drop (i * sz + j + n)) = (vs.take (i * sz + j) ++ (vy.cells.toList ++ vs.drop (i * sz + j + n))) ++ rest := by
          rw [List.take_append_of_le_length (by omega), List.drop_append_of_le_length (by omega)]
          simp [List.append_assoc]
        rw [hsplit] at h7
        refine ⟨w', φ, ?_, Ext.wrote hh hb h6 (.inl ⟨sz, d, c, d, _, _, rest, e, lo', hi', hL, rfl, by simp, h7, ⟨fun _ k hk => h3.1 hnf k ?_, h3.2⟩, hre, fun m hm' => ?_⟩)⟩
        · simp [Instr.storeAt, Instr.sureAddr, storeVar, hvs, run_sizeOf' hsz, h5]
        · rw [← hsplit] at hk
          simp only [List.length_append, List.length_take, List.length_drop, hvl] at hk ⊢; omega
        · obtain ⟨cur, e', fz, h8, h9⟩ := hm'
          rw [h2] at h8; cases h8
          refine ⟨_, _, _, h7, ?_⟩
          rw [← hsplit]
          simp only [List.size_toArray, List.length_append, List.length_take, List.length_drop, hvl] at h9 ⊢; omega
      · rw [hL] at h1; cases h1; cases ho1
    · simp at h
  · simp at h
theorem efStore_any {P L t x y v' id blk p} (h : efStore P L t x y = some (v', id, blk, p)) : v' = .any := by
  unfold efStore at h
  split at h
  · split at h
    · split at h
      · split at h <;> simp only [Option.some.injEq, Prod.mk.injEq] at h <;> exact h.1.symm
      · simp at h
    · simp at h
  · simp at h
theorem ofVal_cells (v : Value) : (AV.ofVal v).cells = [AV.ofVal v] := by unfold AV.ofVal; split <;> rfl
theorem ofVal_flat {v : Value} (h : (AV.ofVal v).flat = true) : v.cells = #[v] ∧ v.oneCell' = true := by
  unfold AV.ofVal at h
  split at h <;> first | exact ⟨rfl, rfl⟩ | simp [AV.flat] at h
theorem zero_ok {P t z} (w : World) (ok : Nat → Nat → Prop) (L : Nat → Option Blk) (φ : Nat → Option Nat) (h : zT P t = some z) (hf : z.cells.all AV.flat = true) :
    ∃ i u, P.info? t = some i ∧ i.zero = some u ∧ z = .ofZero u ∧ R w ok L φ z u ∧ RC w ok L φ z.cells u.cells.toList := by
  obtain ⟨i, u, hi, hz, rfl⟩ := zT_spec h
  have key : RC w ok L φ (AV.ofZero u).cells u.cells.toList := by
    by_cases hu : ∃ cs, u = .agg cs
    · obtain ⟨cs, rfl⟩ := hu
      exact RC_zero (w := w) (ok := ok) (L := L) (φ := φ) cs.toList (fun z hz => List.all_eq_true.1 hf z hz)
    · have e : AV.ofZero u = AV.ofVal u := by
        unfold AV.ofZero
        split
        · exact absurd ⟨_, rfl⟩ hu
        · rfl
      rw [e, ofVal_cells] at hf ⊢
      simp only [List.all_cons, List.all_nil, Bool.and_true] at hf
      obtain ⟨h1, h2⟩ := ofVal_flat hf
      rw [h1]
      refine ⟨rfl, fun i v hv => ?_, fun i a v ha hv => ?_⟩
      · cases i with
        | zero => simp at hv; subst hv; exact h2
        | succ i => simp at hv
      · cases i with
        | zero => simp at hv ha; subst hv; subst ha; exact .pure _ _ (Rp_ofVal w ok _)
        | succ i => simp at hv
  exact ⟨i, u, hi, hz, rfl, .pure _ _ (Rp_ofZero w ok u fun i v hv => key.2.1 i v (by simpa using hv)), key⟩
theorem run_zero {P : Program} {w : World} {t : TypeId} {i : TypeInfo} {u : Value} (hi : P.info? t = some i) (hz : i.zero = some u) : (zeroValue t).run P w = .ok u w := by
  simp [zeroValue, typeInfo, hi, hz]
def lblB2 (t : TypeId) (d : AV) : List AV → AV
  | [.nils] => .iface t d
  | _ => d
def lblB1 (t : TypeId) (d : AV) : AV → List AV → AV
  | .nilp, r => lblB2 t d r
  | _, _ => d
def lblB (t : TypeId) (d : AV) : AV → AV
  | .agg (x :: r) => lblB1 t d x r
  | _ => d
theorem lblB_ty {P : Program} {u : TypeId} {d : AV} (h : zT P u = some d) (t : TypeId) (x : AV) : TyD (lblB t d x) t := by
  unfold lblB
  split
  · unfold lblB1
    split
    · unfold lblB2
      split
      · rfl
      · exact (zT_mark h).2 t
    · exact (zT_mark h).2 t
  · exact (zT_mark h).2 t
def boxC (P : Program) (t : TypeId) (v : AV) : Option (Nat × AV × List AV × Prop) :=
  match P.underlying t with
  | some (.array _ el) => match v, zT P el with
    | .agg cs, some d => some (1, d, cs, cs.all one1 = true)
    | _, _ => none
  | _ => match szT P t, zT P t with
    | some n, some d => some (n, lblB t d d, [v], v.cells.length = n)
    | _, _ => none
def efBoxed (P : Program) (L : Nat → Option Blk) (id : Nat) (t : TypeId) (v : AV) : Option (AV × Nat × Blk × Prop) :=
  match L id with
  | none => match boxC P t v with
    | some (sz, d, c, q) => some (.ptr id 0 0 c.length, id, .cells sz false d c, v.flat = true ∧ q)
    | none => none
  | some _ => none
theorem efBoxed_ok {P L id t a v' id' blk p w0 X ok φ w v} (h : efBoxed P L id t a = some (v', id', blk, p)) (hp : p) (hh : HeapOK w ok L φ) (hw0 : w0.heap.size ≤ w.heap.size)
    (hv : R w ok L φ a v) : EffOK P w0 X (do pure (.pointer (some (← newVar t v)))) L ok φ w v' id' blk := by
  unfold efBoxed at h
  split at h
  · rename_i hL
    split at h <;> simp only [Option.some.injEq, reduceCtorEq, Prod.mk.injEq] at h
    rename_i sz d c q hc
    obtain ⟨rfl, rfl, rfl, rfl⟩ := h
    obtain ⟨hfl, hq⟩ := hp
    have hrc := hv.rcf hfl
    have htd : TyD d t := by
      unfold boxC at hc
      split at hc
      · split at hc <;> simp only [Option.some.injEq, reduceCtorEq, Prod.mk.injEq] at hc
        rename_i cs d' hz
        obtain ⟨rfl, rfl, rfl, rfl⟩ := hc
        exact (zT_mark hz).2 t
      · split at hc <;> simp only [Option.some.injEq, reduceCtorEq, Prod.mk.injEq] at hc
        rename_i n' d' hsz hz
        obtain ⟨rfl, rfl, rfl, rfl⟩ := hc
        exact lblB_ty hz t d'
    have hre : RE w ok L φ sz c v.cells.toList := by
      unfold boxC at hc
      split at hc
      · rename_i n el hu
        split at hc <;> simp only [Option.some.injEq, reduceCtorEq, Prod.mk.injEq] at hc
        rename_i cs d' hz
        obtain ⟨rfl, rfl, rfl, rfl⟩ := hc
        exact hrc.re1 (fun x hx => one1_cells (List.all_eq_true.1 hq x hx))
      · rename_i hu
        split at hc <;> simp only [Option.some.injEq, reduceCtorEq, Prod.mk.injEq] at hc
        obtain ⟨rfl, rfl, rfl, rfl⟩ := hc
        have := RE.one hrc.1 hrc.2.1 hrc.2.2
        rwa [hq] at this
    have hext := Ext.new (w0 := w0) (X := X) (blk := .cells sz false d c) hh hw0 hL (Grow.alloc w (.cells v.cells t))
      (.inl ⟨sz, false, d, c, v.cells.toList, [], t, 0, 0, rfl, by simp, ⟨fun _ k _ => by omega, htd⟩, hre⟩)
    refine ⟨.pointer (some ⟨w.heap.size, 0, none⟩), _, _, ?_, hext, ?_⟩
    · simp [newVar, newRow]
    · exact .ptr id 0 0 c.length _ sz false d c (by simp [updL]) (Nat.le_refl _) (fun _ => ⟨w.heap.size, by simp [updP], by simp⟩)
  · simp at h
theorem efAlloc_ok {P L id t z v' id' blk p w0 X ok φ w} (hz : zT P t = some z) (h : efBoxed P L id t z = some (v', id', blk, p)) (hp : p) (hf : z.cells.all AV.flat = true)
    (hh : HeapOK w ok L φ) (hw0 : w0.heap.size ≤ w.heap.size) : EffOK P w0 X (Instr.alloc t true (.tuple #[])) L ok φ w v' id' blk := by
  obtain ⟨i, u, hi, hzu, _, hr, _⟩ := zero_ok w ok L φ hz hf
  obtain ⟨v, w', φ', h1, h2, h3⟩ := efBoxed_ok h hp hh hw0 hr
  refine ⟨v, w', φ', ?_, h2, h3⟩
  simpa [Instr.alloc, run_zero hi hzu] using h1
theorem fill_inorder (n : Nat) : ∀ (us : List Value) (k : Nat) (pre post : List Value), pre.length = k * n → (∀ u ∈ us, u.cells.size = n) → us.length * n ≤ post.length →
    Instr.fill (fun i => some (i * n, n)) (pre ++ post).toArray ((us.zipIdx k).map fun x => (x.2, x.1)) =
      some (pre ++ (us.flatMap (·.cells.toList) ++ post.drop (us.length * n))).toArray
  | [], k, pre, post, _, _, _ => by simp [Instr.fill]
  | u :: us, k, pre, post, hk, hu, hp => by
    have hn := hu u (by simp)
    have hlen : u.cells.toList.length = n := by simpa using hn
    simp only [List.length_cons, Nat.add_mul, Nat.one_mul] at hp
    simp only [List.zipIdx_cons, List.map_cons, Instr.fill]
    rw [if_neg (by simp [hn]; omega)]
    have hfold := foldl_setAt (pre ++ post) u.cells.toList (k * n) (by simp only [List.length_append, hlen]; omega)
    simp only [Array.toArray_toList] at hfold
    rw [hfold, hlen, ← hk, List.take_left, ← List.drop_drop, List.drop_left, ← List.append_assoc]
    rw [fill_inorder n us (k + 1) (pre ++ u.cells.toList) (post.drop n) (by simp only [List.length_append, hlen, Nat.add_mul]; omega) (fun x hx => hu x (by simp [hx])) (by rw [List.length_drop]; omega)]
    simp only [List.flatMap_cons, List.append_assoc, List.drop_drop, List.length_cons]
    congr 6
    rw [Nat.add_mul]; omega
theorem RE.flatMap {w ok L φ sz} : ∀ {xs : List AV} {us : List Value}, us.length = xs.length → (∀ (i : Nat) (x : AV) (u : Value), xs[i]? = some x → us[i]? = some u → R w ok L φ x u) →
    (∀ x ∈ xs, x.flat = true ∧ x.cells.length = sz) → RE w ok L φ sz xs (us.flatMap (·.cells.toList)) ∧ ∀ u ∈ us, u.cells.size = sz
  | [], [], _, _, _ => ⟨RE.nil .., by simp⟩
  | [], _ :: _, h, _, _ => by simp at h
  | _ :: _, [], h, _, _ => by simp at h
  | x :: xs, u :: us, hl, hr, hx => by
    obtain ⟨h1, h2⟩ := hx x (by simp)
    have hrc := (hr 0 x u rfl rfl).rcf h1
    obtain ⟨ih, ihs⟩ := RE.flatMap (w := w) (ok := ok) (L := L) (φ := φ) (sz := sz) (xs := xs) (us := us) (by simpa using hl) (fun i a b ha hb => hr (i + 1) a b (by simpa using ha) (by simpa using hb)) (fun y hy => hx y (by simp [hy]))
    have h3 := RE.one hrc.1 hrc.2.1 hrc.2.2
    rw [h2] at h3
    refine ⟨?_, fun y hy => ?_⟩
    · have := h3.append ih
      simpa using this
    · rcases List.mem_cons.1 hy with rfl | hy
      · have := hrc.1; simp at this; omega
      · exact ihs y hy
def efBuildSlice (P : Program) (L : Nat → Option Blk) (id : Nat) (t : TypeId) (len : Nat) (ps : List (Nat × AV)) : Option (AV × Nat × Blk × Prop) :=
  match P.underlying t, L id with
  | some (.slice el), none => match szT P el, zT P el with
    | some n, some d =>
      some (.ref id 0 len len, id, .cells n false d (ps.map (·.2)), ps.map (·.1) = List.range len ∧ len * n ≤ 16777216 ∧ len ≤ maxInt ∧ ∀ x ∈ ps, x.2.flat = true ∧ x.2.cells.length = n)
    | _, _ => none
  | _, _ => none
theorem efBuildSlice_ok {P L id t len ps v' id' blk p w0 X ok φ w} {qs : Array (Nat × Value)} (h : efBuildSlice P L id t len ps = some (v', id', blk, p)) (hp : p)
    (hh : HeapOK w ok L φ) (hw0 : w0.heap.size ≤ w.heap.size) (hl : qs.size = ps.length)
    (hq : ∀ (i : Nat) (x : Nat × AV) (y : Nat × Value), ps[i]? = some x → qs[i]? = some y → y.1 = x.1 ∧ R w ok L φ x.2 y.2) :
    EffOK P w0 X (Instr.buildSlice t len qs) L ok φ w v' id' blk := by
  unfold efBuildSlice at h
  split at h
  · rename_i el hu hL
    split at h <;> simp only [Option.some.injEq, reduceCtorEq, Prod.mk.injEq] at h
    rename_i n d hsz hz
    obtain ⟨rfl, rfl, rfl, rfl⟩ := h
    obtain ⟨hidx, hbig, hmx, hx⟩ := hp
    obtain ⟨i, u, hi, hzu, _⟩ := zT_spec hz
    have hlen : ps.length = len := by have := congrArg List.length hidx; simpa using this
    let us := qs.toList.map (·.2)
    have hus : us.length = ps.length := by simp [us, hl]
    obtain ⟨hre, hsize⟩ := RE.flatMap (w := w) (ok := ok) (L := L) (φ := φ) (sz := n) (xs := ps.map (·.2)) (us := us) (by simp [hus]) (fun i x y hx hy => by
        simp only [List.getElem?_map, Option.map_eq_some_iff, us] at hx hy
        obtain ⟨a, ha, rfl⟩ := hx
        obtain ⟨b, hb, rfl⟩ := hy
        exact (hq i a b ha (by simpa using hb)).2) (fun x hx' => by
        obtain ⟨a, ha, rfl⟩ := List.mem_map.1 hx'
        exact hx a ha)
    have hqs : qs.toList = (us.zipIdx 0).map fun x => (x.2, x.1) := by
      apply List.ext_getElem?
      intro k
      simp only [List.getElem?_map, List.getElem?_zipIdx, us]
      cases hk : qs.toList[k]? with
      | none => simp
      | some y =>
        have hlt : k < ps.length := by rw [← hl]; have := (List.getElem?_eq_some_iff.1 hk).1; simpa using this
        have h1 := (hq k ps[k] y (List.getElem?_eq_getElem hlt) (by simpa using hk)).1
        have h2 : (ps.map (·.1))[k]? = some k := by rw [hidx]; exact List.getElem?_range (by omega)
        rw [List.getElem?_map, List.getElem?_eq_getElem hlt] at h2
        simp at h2
        simp
        rw [← h2, ← h1]
    let zs : List Value := List.replicate (len * n) (.bool false)
    have hfill : ∀ (zs : Array Value), zs.size = len * n → Instr.fill (fun i => some (i * n, n)) zs qs.toList = some (us.flatMap (·.cells.toList)).toArray := by
      intro zs hzs
      have := fill_inorder n us 0 [] zs.toList (by simp) hsize (by simp only [hus, hlen, Array.length_toList, hzs]; exact Nat.le_refl _)
      simp only [List.nil_append, Array.toArray_toList] at this
      rw [hqs, this]
      rw [List.drop_of_length_le (by simp only [hus, hlen, Array.length_toList, hzs]; exact Nat.le_refl _)]
      simp
    have hext := Ext.new (w0 := w0) (X := X) (blk := .cells n false d (ps.map (·.2))) hh hw0 hL (Grow.alloc w (.cells (us.flatMap (·.cells.toList)).toArray el))
      (.inl ⟨n, false, d, ps.map (·.2), us.flatMap (·.cells.toList), [], el, 0, 0, rfl, by simp, ⟨fun _ k _ => by omega, (zT_mark hz).2 el⟩, hre⟩)
    have hbl := hre.1
    simp only [List.length_map, hlen] at hbl
    refine ⟨.slice (some ⟨w.heap.size, 0, none⟩) len len, _, _, ?_, hext, ?_⟩
    · have hb' : ¬ (16777216 < len * n) := by omega
      by_cases hzr : len * n = 0
      · simp only [Instr.buildSlice, Sem.run_bind, run_underlying hu, Result.andThen_ok, run_sizeOf' hsz, hzr]
        simp [hfill (Array.map (fun _ => default) (Array.range 0)) (by simp [hzr]), newRow]
      · simp only [Instr.buildSlice, Sem.run_bind, run_underlying hu, Result.andThen_ok, run_sizeOf' hsz]
        simp [hb', hzr, run_zero hi hzu, hfill ((Array.range (len * n)).map fun x => u.cells[x % u.cells.size]!) (by simp), newRow]
    · refine .ref id 0 len len _ _ _ n false d (ps.map (·.2)) (by simp [updL]) (by simp [hlen]) (fun _ => ⟨by omega, .inr ⟨w.heap.size, len, _, by simp [updP], rfl, Nat.le_refl _, ?_, ?_⟩⟩)
      · simpa [maxLen, maxInt] using hmx
      · exact .inr ⟨by simp, _, _, _, heap_alloc_new w _, by simp [hbl]⟩
  · simp at h
end Go.Abs
end
section
set_option linter.unusedVariables false
set_option linter.unusedSimpArgs false
namespace Go.Abs
def efMake (P : Program) (L : Nat → Option Blk) (id : Nat) (t : TypeId) (l c : AV) : Option (AV × Nat × Blk × Prop) :=
  match P.underlying t, L id, l, c with
  | some (.slice el), none, .int _ n, .int _ m => match szT P el, zT P el, byT P el with
    | some sz, some d, some by' =>
      some (.ref id 0 n.toNat n.toNat, id, .cells sz false d (List.replicate n.toNat d),
        d.cells.all AV.flat = true ∧ d.cells.length = sz ∧ 0 < sz ∧ 0 ≤ n ∧ n ≤ m ∧ m ≤ maxInt ∧ (by' : Int) * m ≤ 281474976710656)
    | _, _, _ => none
  | _, _, _, _ => none
theorem getElem_madeCells (z : Array Value) (n k : Nat) (h : k < n) : (madeCells z n).toList[k]? = some z[k % z.size]! := by
  simp [madeCells, List.getElem?_range h]
theorem efMake_ok {P L id t l c v' id' blk p w0 X ok φ w vl vc} (h : efMake P L id t l c = some (v', id', blk, p)) (hp : p) (hh : HeapOK w ok L φ) (hw0 : w0.heap.size ≤ w.heap.size)
    (hl : R w ok L φ l vl) (hc : R w ok L φ c vc) : EffOK P w0 X (Instr.makeSlice t vl vc) L ok φ w v' id' blk := by
  unfold efMake at h
  split at h
  · rename_i el kl n kc m hu hL
    obtain rfl : vl = .int kl n := by cases hl with | pure _ _ h => cases h; rfl
    obtain rfl : vc = .int kc m := by cases hc with | pure _ _ h => cases h; rfl
    split at h <;> simp only [Option.some.injEq, reduceCtorEq, Prod.mk.injEq] at h
    rename_i sz d by' hsz hz hby
    obtain ⟨rfl, rfl, rfl, rfl⟩ := h
    obtain ⟨hf, hdl, hs0, h0, hnm, hm, hb⟩ := hp
    obtain ⟨i, u, hi, hzu, hdz, hr, hrc⟩ := zero_ok w ok L φ hz hf
    have hisz : i.size = sz := by simp [szT, hi] at hsz; exact hsz
    have hiby : i.bytes = by' := by simp [byT, hi] at hby; exact hby
    have hus : u.cells.size = sz := by have := hrc.1; simp at this; omega
    have hrun := run_make (P := P) w t el i u hu hi hzu kl kc n m h0 hnm (by rw [hiby]; exact hb) (by simp only [maxInt] at hm; omega)
    rw [hisz] at hrun
    obtain ⟨k, rfl⟩ := Int.eq_ofNat_of_zero_le h0
    obtain ⟨q, rfl⟩ := Int.eq_ofNat_of_zero_le (show (0 : Int) ≤ m by omega)
    simp only [Int.toNat_natCast] at hrun ⊢
    have hkq : k ≤ q := by omega
    have hcell : ∀ j, j < sz → u.cells.toList[j]? = some u.cells[j]! := fun j hj => by
      have hj' : j < u.cells.size := by omega
      simp [hj', getElem!_pos]
    have hre : RE w ok L φ sz (List.replicate k d) ((madeCells u.cells (q * sz)).toList.take (k * sz)) := by
      have hmul : k * sz ≤ q * sz := Nat.mul_le_mul_right _ hkq
      refine ⟨by simp only [List.length_take, Array.length_toList, size_madeCells, List.length_replicate]; omega, fun i x hx => ?_, fun i x j y hx hy => ?_⟩
      · rw [List.getElem?_replicate] at hx
        split at hx
        · cases hx; exact hdl
        · simp at hx
      · rw [List.getElem?_replicate] at hx
        split at hx
        · rename_i hik
          cases hx
          have hj : j < sz := by rw [← hdl]; exact (List.getElem?_eq_some_iff.1 hy).1
          have hlt := idx_lt hik hj
          refine ⟨u.cells[j]!, ?_, hrc.2.1 j _ (hcell j hj), hrc.2.2 j _ _ hy (hcell j hj)⟩
          rw [List.getElem?_take, if_pos hlt, getElem_madeCells _ _ _ (by omega), hus]
          rw [Nat.mul_comm, Nat.mul_add_mod, Nat.mod_eq_of_lt hj]
        · simp at hx
    have hsplit : (madeCells u.cells (q * sz)) = ((madeCells u.cells (q * sz)).toList.take (k * sz) ++ (madeCells u.cells (q * sz)).toList.drop (k * sz)).toArray := by simp
    have hext := Ext.new (w0 := w0) (X := X) (blk := .cells sz false d (List.replicate k d)) hh hw0 hL (Grow.alloc w (.cells (madeCells u.cells (q * sz)) el))
      (.inl ⟨sz, false, d, _, (madeCells u.cells (q * sz)).toList.take (k * sz), (madeCells u.cells (q * sz)).toList.drop (k * sz), el, 0, 0, rfl, congrArg (fun c => Obj.cells c el (0, 0)) hsplit, ⟨fun _ k _ => by omega, (zT_mark hz).2 el⟩, hre⟩)
    refine ⟨_, _, _, hrun, hext, .ref id 0 k k _ _ _ sz false d (List.replicate k d) (by simp [updL]) (by simp) (fun _ => ⟨by omega, .inr ⟨w.heap.size, q, _, by simp [updP], rfl, hkq, ?_, ?_⟩⟩)⟩
    · simp only [maxInt] at hm; simp [maxLen]; omega
    · exact .inr ⟨by simp, _, _, _, heap_alloc_new w _, by simp [size_madeCells]⟩
  · simp at h
def byteAV (b : UInt8) : AV := .int .u8 b.toNat
def efBytes (P : Program) (L : Nat → Option Blk) (id : Nat) (src dst : TypeId) (x : AV) : Option (AV × Nat × Blk × Prop) :=
  match P.underlying src, P.underlying dst, L id, x with
  | some .string, some (.slice el), none, .str s => match P.underlying el with
    | some (.int .u8) => some (.ref id 0 s.length s.length, id, .cells 1 false (byteAV 0) (s.map byteAV), s.length ≤ maxInt)
    | _ => none
  | _, _, _, _ => none
theorem freeze_end {w : World} {b n : Nat} {cs : Array Value} {e : TypeId} (h : w.heap[b]? = some (.cells cs e (0, 0))) :
    (w.freeze ⟨b, n, none⟩ 1).heap[b]? = some (.cells cs e (n, n + 1)) ∧ (∀ k, k ≠ b → (w.freeze ⟨b, n, none⟩ 1).heap[k]? = w.heap[k]?) ∧ (w.freeze ⟨b, n, none⟩ 1).heap.size = w.heap.size := by
  refine ⟨?_, fun k hk => ?_, ?_⟩
  · simp [World.freeze, Array.getElem?_modify, h]
  · simp only [World.freeze, Nat.succ_ne_zero, if_false, Array.getElem?_modify]
    rw [if_neg (by omega)]
  · simp [World.freeze]
def bytesV (s : List UInt8) : List Value := s.map fun b => Value.int .u8 b.toNat
theorem grow_frozen (w : World) (cs : Array Value) (el : TypeId) :
    Grow (.cells cs el (cs.size, cs.size + 1)) w ((w.drew.alloc (.cells cs el)).freeze ⟨w.heap.size, cs.size, none⟩ 1) := by
  have h : (w.drew.alloc (.cells cs el)).heap[w.heap.size]? = some (.cells cs el (0, 0)) := heap_alloc_new w.drew (.cells cs el)
  obtain ⟨f1, f2, f3⟩ := freeze_end (n := cs.size) h
  refine ⟨by simp only [World.freeze, Nat.succ_ne_zero, if_false]; rfl, by simp only [World.freeze, Nat.succ_ne_zero, if_false]; rfl, by simp only [World.freeze, Nat.succ_ne_zero, if_false]; rfl, by rw [f3]; simp, fun k hk => ?_, f1⟩
  rw [f2 k (by omega)]
  exact heap_alloc_old w.drew _ k hk
theorem run_stringToBytes {P : Program} (w : World) (el : TypeId) (s : List UInt8) :
    ∃ cap w', (Conv.stringToBytes el ⟨s.toArray⟩).run P w = .ok (.slice (some ⟨w.heap.size, 0, none⟩) s.length cap) w' ∧ s.length ≤ cap ∧ (s.length ≤ maxLen → cap ≤ maxLen) ∧
      Grow (.cells (bytesV s ++ List.replicate (cap - s.length) (Value.int .u8 0)).toArray el (cap, cap + 1)) w w' := by
  have hsz : (ByteArray.mk s.toArray).size = s.length := by simp [ByteArray.size]
  have hcge : s.length ≤ grownCap w s.length 0 el := grownCap_ge w s.length 0 el
  have hcle := grownCap_le_maxLen w s.length 0 el
  have hbl : (bytesV s).length = s.length := by simp [bytesV]
  generalize hcap : grownCap w s.length 0 el = cap at hcge hcle
  have hcs : (bytesV s ++ List.replicate (cap - s.length) (Value.int .u8 0)).toArray.size = cap := by simp [hbl]; omega
  have hg := grow_frozen w (bytesV s ++ List.replicate (cap - s.length) (Value.int .u8 0)).toArray el
  rw [hcs] at hg
  refine ⟨cap, _, ?_, hcge, hcle, hg⟩
  have helems : (ByteArray.mk s.toArray).data.map (fun b => Value.int .u8 b.toNat) ++ Array.replicate (cap - s.length) (Value.int .u8 0) = (bytesV s ++ List.replicate (cap - s.length) (Value.int .u8 0)).toArray := by
    simp [bytesV]
  have hsh : (w.drew.alloc (.cells (bytesV s ++ List.replicate (cap - s.length) (Value.int .u8 0)).toArray el)).shape? w.heap.size = some (el, cap) := by
    simp only [World.shape?]
    rw [show (w.drew.alloc (.cells (bytesV s ++ List.replicate (cap - s.length) (Value.int .u8 0)).toArray el)).heap[w.heap.size]? = some (.cells (bytesV s ++ List.replicate (cap - s.length) (Value.int .u8 0)).toArray el) from heap_alloc_new w.drew _]
    simp only [hcs]
  have hgc : (Question.appendCap s.length 0 el).cut (w.tape w.drawn (Question.appendCap s.length 0 el)) = cap := hcap
  simp only [Conv.stringToBytes, hsz, Sem.run_bind, run_choose, Question.forced, Bool.false_eq_true, if_false, Result.andThen_ok, hgc, helems, newRow, run_newObj, Sem.run_pure, markStringish,
    World.drew_eq, World.alloc_eq, World.size_drew, run_shape, hsh, run_freeze]
theorem efBytes_ok {P L id src dst x v' id' blk p w0 X ok φ w vx} (h : efBytes P L id src dst x = some (v', id', blk, p)) (hp : p) (hh : HeapOK w ok L φ) (hw0 : w0.heap.size ≤ w.heap.size)
    (hx : R w ok L φ x vx) : EffOK P w0 X (convert src dst vx) L ok φ w v' id' blk := by
  unfold efBytes at h
  split at h
  · rename_i el s hs hd hL
    split at h <;> simp only [Option.some.injEq, reduceCtorEq, Prod.mk.injEq] at h
    rename_i hel
    obtain ⟨rfl, rfl, rfl, rfl⟩ := h
    obtain rfl : vx = .string ⟨s.toArray⟩ := by cases hx with | pure _ _ h => cases h; rfl
    obtain ⟨cap, w', hrun, hcge, hcle, hgrow⟩ := run_stringToBytes (P := P) w el s
    have hbl : (bytesV s).length = s.length := by simp [bytesV]
    have hre : RE w ok L φ 1 (s.map byteAV) (bytesV s) := by
      refine RC.re1 ⟨by simp [bytesV], fun i v hv => ?_, fun i a v ha hv => ?_⟩ (fun x hx => ?_)
      · simp only [bytesV, List.getElem?_map, Option.map_eq_some_iff] at hv
        obtain ⟨b, _, rfl⟩ := hv; rfl
      · simp only [bytesV, List.getElem?_map, Option.map_eq_some_iff] at ha hv
        obtain ⟨b, hb, rfl⟩ := ha
        obtain ⟨b', hb', rfl⟩ := hv
        rw [hb] at hb'; cases hb'
        exact .pure _ _ (.int _ _)
      · obtain ⟨b, _, rfl⟩ := List.mem_map.1 hx; rfl
    have hext := Ext.new (w0 := w0) (X := X) (blk := .cells 1 false (byteAV 0) (s.map byteAV)) hh hw0 hL hgrow
      (.inl ⟨1, false, _, _, bytesV s, List.replicate (cap - s.length) (.int .u8 0), el, cap, cap + 1, rfl, rfl, ⟨fun _ k hk => by
        simp only [List.length_append, hbl, List.length_replicate] at hk; omega, trivial⟩, hre⟩)
    refine ⟨.slice (some ⟨w.heap.size, 0, none⟩) s.length cap, w', _, ?_, hext, ?_⟩
    · simp only [convert, Sem.run_bind, run_underlying hs, run_underlying hd, Result.andThen_ok, run_underlying hel, hrun]
    · refine .ref id 0 s.length s.length _ _ _ 1 false (byteAV 0) (s.map byteAV) (by simp [updL]) (by simp) (fun _ => ⟨by omega, .inr ⟨w.heap.size, cap, _, by simp [updP], rfl, hcge, hcle (by simpa [maxLen, maxInt] using hp), .inr ⟨by simp, _, el, _, hgrow.new, by simp [hbl]; omega⟩⟩⟩)
  · simp at h
def isU8 : AV → Bool
  | .int .u8 _ => true
  | _ => false
def toByte : AV → UInt8
  | .int _ n => UInt8.ofNat n.toNat
  | _ => 0
def elemsA (L : Nat → Option Blk) (x : AV) : Option (Nat × List AV × Prop) :=
  match x with
  | .list sz l => some (sz, l, True)
  | .ref id off len hw => match L id with
    | some (.cells sz _ _ c) => some (sz, (c.drop off).take len, hw = c.length)
    | _ => none
  | _ => none
theorem elems_ok {w ok L φ x v sz l p} (h : elemsA L x = some (sz, l, p)) (hp : p) (hh : HeapOK w ok L φ) (hx : R w ok L φ x v) :
    ∃ a n cap, v = .slice a n cap ∧ n = l.length ∧ ∃ vs : List Value, RE w ok L φ sz l vs ∧
      ((l = [] ∧ a = none) ∨ (∃ pa, a = some pa ∧ (l = [] ∨ ∃ b o, pa = ⟨b, o, none⟩ ∧ ∀ (j : Nat) (u : Value), vs[j]? = some u → w.cell? ⟨b, o + j, none⟩ = some u))) := by
  unfold elemsA at h
  split at h
  · rename_i sz' l'
    simp only [Option.some.injEq, Prod.mk.injEq] at h
    obtain ⟨rfl, rfl, rfl⟩ := h
    obtain ⟨a, cap, rfl, hcap, hm, hcase⟩ := hx.listInv.listInv
    rcases hcase with rfl | ⟨b, off, cv, rfl, hs, h1, h2⟩
    · refine ⟨a, 0, cap, rfl, rfl, [], RE.nil .., ?_⟩
      cases a with
      | none => exact .inl ⟨rfl, rfl⟩
      | some pa => exact .inr ⟨pa, rfl, .inl rfl⟩
    · let vs : List Value := (List.range (l'.length * sz')).map fun k => cv (k / sz') (k % sz')
      have hvs : ∀ i j, i < l'.length → j < sz' → vs[i * sz' + j]? = some (cv i j) := by
        intro i j hi hj
        have hlt := idx_lt hi hj
        simp only [vs, List.getElem?_map, List.getElem?_range hlt, Option.map_some]
        rw [Nat.mul_comm i, Nat.mul_add_div (by omega), Nat.div_eq_of_lt hj, Nat.mul_add_mod, Nat.mod_eq_of_lt hj, Nat.add_zero]
      refine ⟨_, _, cap, rfl, rfl, vs, ⟨by simp [vs], hs, fun i x j y hx hy => ?_⟩, .inr ⟨_, rfl, .inr ⟨b, off, rfl, fun k u hk => ?_⟩⟩⟩
      · have hi : i < l'.length := (List.getElem?_eq_some_iff.1 hx).1
        have hj : j < sz' := by rw [← hs i x hx]; exact (List.getElem?_eq_some_iff.1 hy).1
        exact ⟨cv i j, hvs i j hi hj, (h1 i x j y hx hy).2.2, .pure _ _ (h2 i x j y hx hy)⟩
      · have hk' : k < l'.length * sz' := by have := (List.getElem?_eq_some_iff.1 hk).1; simpa [vs] using this
        have hsz : 0 < sz' := by rcases Nat.eq_zero_or_pos sz' with h0 | h0; simp [h0] at hk'; exact h0
        have hi : k / sz' < l'.length := by rw [Nat.div_lt_iff_lt_mul hsz]; exact hk'
        have hj : k % sz' < sz' := Nat.mod_lt _ hsz
        have hki : k = k / sz' * sz' + k % sz' := by rw [Nat.mul_comm]; exact (Nat.div_add_mod k sz').symm
        rw [hki, hvs _ _ hi hj] at hk
        cases hk
        have hcl := hs _ _ (List.getElem?_eq_getElem hi)
        have := (h1 _ _ _ _ (List.getElem?_eq_getElem hi) (List.getElem?_eq_getElem (by omega : k % sz' < (l'[k / sz']).cells.length))).2.1
        rw [Nat.add_assoc, ← hki] at this
        exact this
  · rename_i id off len hw
    split at h <;> simp only [Option.some.injEq, reduceCtorEq, Prod.mk.injEq] at h
    rename_i sz' ro d c hL
    obtain ⟨rfl, rfl, rfl⟩ := h
    obtain ⟨sz1, ro', d', c', hL', hle, ⟨a, n, m, rfl⟩, hr⟩ := hx.refInv
    rw [hL] at hL'; cases hL'
    obtain ⟨h1, h2⟩ := hr hp
    have hlen : ((c.drop off).take len).length = len := by simp; omega
    rcases h2 with ⟨h2, a0, h3⟩ | ⟨b, cap, pa, h2, h3, h4, h5, h6⟩
    · cases h3
      have : ((c.drop off).take len) = [] := List.eq_nil_of_length_eq_zero (by rw [hlen]; omega)
      rw [this]
      refine ⟨a, 0, 0, rfl, rfl, [], RE.nil .., ?_⟩
      cases a with
      | none => exact .inl ⟨rfl, rfl⟩
      | some pa => exact .inr ⟨pa, rfl, .inl rfl⟩
    · cases h3
      refine ⟨_, _, _, rfl, hlen.symm, ?_⟩
      rcases hh.live h2 with ⟨sz1, ro1, d1, c1, vs, rest, e, lo', hi', g1, g2, g3, g4⟩ | ⟨blk1, o1, g1, _, ho1⟩
      · rw [hL] at g1; cases g1
        refine ⟨_, g4.sub off len, .inr ⟨pa, rfl, ?_⟩⟩
        rcases h6 with h6 | ⟨rfl, h7⟩
        · left
          exact List.eq_nil_of_length_eq_zero (by rw [hlen]; omega)
        · right
          refine ⟨b, off * sz', rfl, fun k u hk => ?_⟩
          rw [cell_blk g2]
          rw [List.getElem?_take] at hk
          split at hk
          · rw [List.getElem?_drop] at hk
            have hlt := (List.getElem?_eq_some_iff.1 hk).1
            simp [List.getElem?_append_left hlt, hk]
          · simp at hk
      · rw [hL] at g1; cases g1; cases ho1
  · simp at h
def rdText (P : Program) (L : Nat → Option Blk) (src dst : TypeId) (x : AV) : Option (AV × Prop) :=
  match P.underlying src, P.underlying dst with
  | some (.slice el), some .string => match P.underlying el with
    | some (.int .u8) => match x with
      | .nils => some (.str [], True)
      | x => match elemsA L x with
        | some (sz, l, q) => some (.str (l.map toByte), q ∧ sz = 1 ∧ l.all isU8 = true)
        | none => none
    | _ => none
  | _, _ => none
theorem rdText_ok {P src dst x v' p w ok L φ vx} (h : rdText P L src dst x = some (v', p)) (hp : p) (hh : HeapOK w ok L φ) (hx : R w ok L φ x vx) :
    ∃ v, (convert src dst vx).run P w = .ok v w ∧ R w ok L φ v' v := by
  unfold rdText at h
  split at h
  · rename_i el hs hd
    split at h
    · rename_i hel
      split at h
      · simp only [Option.some.injEq, Prod.mk.injEq] at h
        obtain ⟨rfl, rfl⟩ := h
        obtain rfl : vx = .slice none 0 0 := by cases hx with | pure _ _ h => cases h; rfl
        refine ⟨.string .empty, ?_, .pure _ _ (.str [])⟩
        rw [run_convert_bytes_string w src dst el _ _ _ hs hel hd]
        simp [Conv.bytesToString]
      · rename_i y hne
        split at h <;> simp only [Option.some.injEq, reduceCtorEq, Prod.mk.injEq] at h
        rename_i sz l q he
        obtain ⟨rfl, rfl⟩ := h
        obtain ⟨hq, rfl, hall⟩ := hp
        obtain ⟨a, n, cap, rfl, rfl, vs, hre, hcase⟩ := elems_ok he hq hh hx
        have hu : ∀ x ∈ l, ∃ m : Int, x = .int .u8 m := fun x hx => by
          have := List.all_eq_true.1 hall x hx
          unfold isU8 at this
          split at this
          · exact ⟨_, rfl⟩
          · simp at this
        have hvl : vs.length = l.length := by have := hre.1; omega
        let ns : List Int := l.map fun x => match x with | .int _ m => m | _ => 0
        have hvs : vs = ns.map (Value.int .u8) := by
          apply List.ext_getElem?
          intro i
          simp only [ns, List.map_map, List.getElem?_map]
          cases hi : l[i]? with
          | none =>
            have : l.length ≤ i := List.getElem?_eq_none_iff.1 hi
            simp [List.getElem?_eq_none_iff.2 (show vs.length ≤ i by omega)]
          | some x =>
            obtain ⟨m, rfl⟩ := hu x (List.mem_of_getElem? hi)
            obtain ⟨v, h1, _, h3⟩ := hre.2.2 i _ 0 (.int .u8 m) hi rfl
            simp only [Nat.mul_one, Nat.add_zero] at h1
            obtain rfl : v = .int .u8 m := by cases h3 with | pure _ _ h => cases h; rfl
            simp [h1]
        have hfold : ∀ (ms : List Int) (acc : List UInt8), ms.foldl (fun (r : ByteArray) n => r.push (UInt8.ofNat n.toNat)) ⟨acc.toArray⟩ = ⟨(acc ++ ms.map fun n => UInt8.ofNat n.toNat).toArray⟩ := by
          intro ms
          induction ms with
          | nil => intro acc; simp
          | cons m ms ih =>
            intro acc
            simp only [List.foldl_cons, List.map_cons]
            have : (ByteArray.mk acc.toArray).push (UInt8.ofNat m.toNat) = ⟨(acc ++ [UInt8.ofNat m.toNat]).toArray⟩ := by
              apply ByteArray.ext; simp
            rw [this, ih]
            simp
        have htext : (ns.foldl (fun (r : ByteArray) n => r.push (UInt8.ofNat n.toNat)) ByteArray.empty) = ⟨(l.map toByte).toArray⟩ := by
          have := hfold ns []
          simp only [List.nil_append] at this
          rw [show ByteArray.empty = ⟨([] : List UInt8).toArray⟩ from rfl, this]
          simp only [ns, List.map_map]
          congr 2
          apply List.map_congr_left
          intro x hx
          obtain ⟨m, rfl⟩ := hu x hx
          rfl
        refine ⟨.string ⟨(l.map toByte).toArray⟩, ?_, .pure _ _ (.str _)⟩
        rw [run_convert_bytes_string w src dst el _ _ _ hs hel hd]
        rcases hcase with ⟨rfl, rfl⟩ | ⟨pa, rfl, hc⟩
        · simp [Conv.bytesToString]; rfl
        · rw [← htext]
          refine run_bytesToString w pa _ cap ns ?_
          rcases hc with rfl | ⟨b, o, rfl, hcell⟩
          · simp [loadCells, loadCellsFrom, ns]
          · have := run_loadCells' (P := P) vs hcell
            rw [hvl, hvs] at this
            exact this
    · simp at h
  · simp at h
end Go.Abs
set_option linter.unusedVariables false
set_option linter.unusedSimpArgs false
namespace Go.Abs
def efRange (P : Program) (L : Nat → Option Blk) (id : Nat) (t : TypeId) (x : AV) : Option (AV × Nat × Blk × Prop) :=
  match P.underlying t, L id, x with
  | some .string, none, .str s => some (.it id, id, .iter s 0, True)
  | _, _, _ => none
theorem efRange_ok {P L id t x v' id' blk p w0 X ok φ w vx} (h : efRange P L id t x = some (v', id', blk, p)) (hp : p) (hh : HeapOK w ok L φ) (hw0 : w0.heap.size ≤ w.heap.size)
    (hx : R w ok L φ x vx) : EffOK P w0 X (Instr.range t vx) L ok φ w v' id' blk := by
  unfold efRange at h
  split at h <;> simp only [Option.some.injEq, reduceCtorEq, Prod.mk.injEq] at h
  rename_i s hu hL
  obtain ⟨rfl, rfl, rfl, rfl⟩ := h
  obtain rfl : vx = .string ⟨s.toArray⟩ := by cases hx with | pure _ _ h => cases h; rfl
  have hext := Ext.new (w0 := w0) (X := X) (blk := .iter s 0) hh hw0 hL (Grow.alloc w (.stringIter ⟨s.toArray⟩ 0)) (.inr (.iter s 0))
  exact ⟨.pointer (some ⟨w.heap.size, 0, none⟩), _, _, by simp [Instr.range, run_underlying hu], hext, .it id s 0 w.heap.size (by simp [updL]) (by simp [updP])⟩
def runeAt (s : List UInt8) (pos : Nat) : Int × Nat := let r := Utf8.decode ⟨s.toArray⟩ pos; (r.1, r.2)
def efNext (L : Nat → Option Blk) (x : AV) : Option (AV × Nat × Blk × Prop) :=
  match x with
  | .it id => match L id with
    | some (.iter s pos) => some (.nxt (decide (pos < s.length)) pos (runeAt s pos).1, id, .iter s (if pos < s.length then pos + (runeAt s pos).2 else pos), True)
    | _ => none
  | _ => none
theorem efNext_ok {P L x v' id blk p w0 X ok φ w vx ty} (h : efNext L x = some (v', id, blk, p)) (hp : p) (hh : HeapOK w ok L φ) (hx : R w ok L φ x vx) :
    EffOK P w0 X (Instr.next vx true ty) L ok φ w v' id blk := by
  unfold efNext at h
  split at h
  · rename_i id'
    split at h <;> simp only [Option.some.injEq, reduceCtorEq, Prod.mk.injEq] at h
    rename_i s pos hL
    obtain ⟨rfl, rfl, rfl, rfl⟩ := h
    obtain ⟨s', pos', b, hL', hb, rfl⟩ : ∃ s' pos' b, L id' = some (.iter s' pos') ∧ φ id' = some b ∧ vx = .pointer (some ⟨b, 0, none⟩) := by
      cases hx with
      | pure _ _ h => cases h
      | it _ s pos b hL hφ => exact ⟨s, pos, b, hL, hφ, rfl⟩
    rw [hL] at hL'; cases hL'
    rcases hh.live hb with ⟨_, _, _, _, _, _, _, _, _, h1, _⟩ | ⟨blk1, o1, h1, h2, h3⟩
    · rw [hL] at h1; cases h1
    · rw [hL] at h1; cases h1; cases h3
      have hlt : b < w.heap.size := hh.lt hb
      have hsz : (ByteArray.mk s.toArray).size = s.length := by simp [ByteArray.size]
      have hget : (getObj b).run P w = .ok (.stringIter ⟨s.toArray⟩ pos) w := by simp [getObj, Sem.run, h2]
      by_cases hp' : pos < s.length
      · let w' : World := { w with heap := w.heap.setIfInBounds b (.stringIter ⟨s.toArray⟩ (pos + (runeAt s pos).2)) }
        have hset : (setObj b (.stringIter ⟨s.toArray⟩ (pos + (runeAt s pos).2))).run P w = .ok () w' := by simp [setObj, Sem.run, h2, w']
        have hwr : Wr b w w' := ⟨rfl, rfl, rfl, by simp [w'], fun k hk => by simp [w', Array.getElem?_setIfInBounds_ne (Ne.symm hk)]⟩
        have hnew : w'.heap[b]? = some (.stringIter ⟨s.toArray⟩ (pos + (runeAt s pos).2)) := by simp [w', hlt]
        refine ⟨.tuple #[.bool true, .int .i64 pos, .int .i32 (runeAt s pos).1], w', φ, ?_, ?_, ?_⟩
        · simp only [Instr.next, Sem.run_bind, hget, Result.andThen_ok, hsz, if_pos hp']
          rw [show (Utf8.decode ⟨s.toArray⟩ pos).2 = (runeAt s pos).2 from rfl, hset]
          rfl
        · rw [if_pos hp']
          exact Ext.wrote hh hb hwr (.inr ⟨_, _, hL, rfl, hnew, .iter _ _⟩)
        · rw [decide_eq_true hp']; exact .pure _ _ (.nxtT _ _)
      · refine ⟨.tuple #[.bool false], w, φ, ?_, ?_, ?_⟩
        · simp only [Instr.next, Sem.run_bind, hget, Result.andThen_ok, hsz, if_neg hp', Sem.run_pure]
        · rw [if_neg hp']
          exact Ext.wrote hh hb (Wr.refl b w) (.inr ⟨_, _, hL, rfl, h2, .iter _ _⟩)
        · rw [decide_eq_false hp']; exact .pure _ _ (.nxtF _ _)
  · simp at h
def mget : List (List UInt8 × Int) → List UInt8 → Int
  | [], _ => 0
  | (k, v) :: r, s => if s = k then v else mget r s
def mput : List (List UInt8 × Int) → List UInt8 → Int → List (List UInt8 × Int)
  | [], s, n => [(s, n)]
  | (k, v) :: r, s, n => if s = k then (s, n) :: r else (k, v) :: mput r s n
def mfind : List (List UInt8 × Int) → List UInt8 → Nat → Option (Nat × Int)
  | [], _, _ => none
  | (k, v) :: r, s, i => if s = k then some (i, v) else mfind r s (i + 1)
theorem findNow_mfind (s : List UInt8) : ∀ (es : List (List UInt8 × Int)) (ents : List MapEntry) (i : Nat), ents.map (fun e => (e.key, e.val)) = es.map (fun p => (Value.string ⟨p.1.toArray⟩, Value.int .i64 p.2)) →
    Instr.findNow .string (.string ⟨s.toArray⟩) ents i = some ((mfind es s i).map fun x => (x.1, Value.int .i64 x.2))
  | [], [], i, _ => rfl
  | [], _ :: _, i, h => by simp at h
  | _ :: _, [], i, h => by simp at h
  | (k, v) :: r, e :: es, i, h => by
    simp only [List.map_cons, List.cons.injEq, Prod.mk.injEq] at h
    obtain ⟨⟨h1, h2⟩, h3⟩ := h
    have hb : ((⟨s.toArray⟩ : ByteArray) == ⟨k.toArray⟩) = decide (s = k) := by
      rw [beq_toListBytes, ByteArray.toList_eq, ByteArray.toList_eq, Bool.eq_iff_iff]
      simp
    simp only [Instr.findNow, h1, Instr.sameNow, hb, mfind]
    by_cases e2 : s = k
    · simp [e2, h2]
    · simp [e2, findNow_mfind s r es (i + 1) h3]
theorem mfind_get (s : List UInt8) : ∀ (es : List (List UInt8 × Int)) (i : Nat), mget es s = match mfind es s i with | some (_, v) => v | none => 0
  | [], i => rfl
  | (k, v) :: r, i => by
    simp only [mget, mfind]
    by_cases h : s = k
    · simp [h]
    · simp only [if_neg h]; exact mfind_get s r (i + 1)
theorem mfind_none (s : List UInt8) (n : Int) : ∀ (es : List (List UInt8 × Int)) (i : Nat), mfind es s i = none → mput es s n = es ++ [(s, n)]
  | [], i, _ => rfl
  | (k, v) :: r, i, h => by
    simp only [mfind] at h
    split at h
    · cases h
    · rename_i hk
      simp only [mput, if_neg hk, mfind_none s n r (i + 1) h, List.cons_append]
theorem mfind_some (s : List UInt8) (n : Int) : ∀ (es : List (List UInt8 × Int)) (i j : Nat) (v : Int), mfind es s i = some (j, v) → i ≤ j ∧ j - i < es.length ∧ es[j - i]? = some (s, v) ∧ mput es s n = es.set (j - i) (s, n)
  | [], i, j, v, h => by simp [mfind] at h
  | (k, u) :: r, i, j, v, h => by
    simp only [mfind] at h
    split at h
    · rename_i hk
      simp only [Option.some.injEq, Prod.mk.injEq] at h
      obtain ⟨rfl, rfl⟩ := h
      subst hk
      exact ⟨Nat.le_refl _, by simp, by simp, by simp [mput]⟩
    · rename_i hk
      obtain ⟨h1, h2, h3, h4⟩ := mfind_some s n r (i + 1) j v h
      have e : j - i = (j - (i + 1)) + 1 := by omega
      refine ⟨by omega, by simp only [List.length_cons]; omega, by rw [e]; simpa using h3, ?_⟩
      rw [e, List.set_cons_succ, mput, if_neg hk, h4]
def strKey (P : Program) (t : TypeId) : Option TypeId := match P.underlying t with
  | some (.map k e) => match P.underlying k with
    | some .string => some e
    | _ => none
  | _ => none
theorem strKey_spec {P t e} (h : strKey P t = some e) : ∃ k, P.underlying t = some (.map k e) ∧ P.underlying k = some .string := by
  unfold strKey at h
  split at h
  · rename_i k e' hu
    split at h
    · rename_i hk; cases h; exact ⟨k, hu, hk⟩
    · cases h
  · cases h
def efMakeMap (P : Program) (L : Nat → Option Blk) (id : Nat) (t : TypeId) : Option (AV × Nat × Blk × Prop) :=
  match strKey P t, L id with
  | some _, none => some (.mp id, id, .map [], True)
  | _, _ => none
def rdLookup (P : Program) (L : Nat → Option Blk) (t : TypeId) (x k : AV) : Option (AV × Prop) :=
  match strKey P t with
  | some e => match x with
    | .mp id => match L id with
      | some (.map es) => match k with
        | .str s => some (.int .i64 (mget es s), zT P e = some (.int .i64 0))
        | _ => none
      | _ => none
    | _ => none
  | none => none
def efMapPut (P : Program) (L : Nat → Option Blk) (t : TypeId) (x k v : AV) : Option (AV × Nat × Blk × Prop) :=
  match strKey P t with
  | some _ => match x with
    | .mp id => match L id with
      | some (.map es) => match k, v with
        | .str s, .int .i64 n => some (.any, id, .map (mput es s n), True)
        | _, _ => none
      | _ => none
    | _ => none
  | none => none
theorem efMakeMap_ok {P L id t v' id' blk p w0 X ok φ w} (h : efMakeMap P L id t = some (v', id', blk, p)) (hh : HeapOK w ok L φ) (hw0 : w0.heap.size ≤ w.heap.size) :
    EffOK P w0 X (Instr.makeMap t none) L ok φ w v' id' blk := by
  unfold efMakeMap at h
  split at h <;> simp only [Option.some.injEq, reduceCtorEq, Prod.mk.injEq] at h
  rename_i e hk hL
  obtain ⟨rfl, rfl, rfl, rfl⟩ := h
  have hext := Ext.new (w0 := w0) (X := X) (blk := .map []) hh hw0 hL (Grow.alloc w (.map #[] 0)) (.inr (.map [] [] 0 rfl))
  exact ⟨.map (some w.heap.size), _, _, by simp [Instr.makeMap], hext, .mp id [] w.heap.size (by simp [updL]) (by simp [updP])⟩
theorem mapInv {w ok L φ id v es} (hh : HeapOK w ok L φ) (h : R w ok L φ (.mp id) v) (hL : L id = some (.map es)) : ∃ b ents clock, v = .map (some b) ∧ φ id = some b ∧ w.heap[b]? = some (.map (ents : List MapEntry).toArray clock) ∧
    ents.map (fun e => (e.key, e.val)) = es.map (fun p => (Value.string ⟨p.1.toArray⟩, Value.int .i64 p.2)) := by
  cases h with
  | pure _ _ h => cases h
  | mp _ es' b hL' hφ =>
    rw [hL] at hL'; cases hL'
    rcases hh.live hφ with ⟨_, _, _, _, _, _, _, _, _, h1, _⟩ | ⟨blk1, o1, h1, h2, h3⟩
    · rw [hL] at h1; cases h1
    · rw [hL] at h1; cases h1
      cases h3 with
      | map _ ents clock h4 => exact ⟨b, ents, clock, rfl, hφ, h2, h4⟩
theorem run_checkKey {P : Program} {w : World} {k : TypeId} (hk : P.underlying k = some .string) (e : Bool) (v : Value) : (Instr.checkKey e 10000 k v).run P w = .ok () w := by
  have key : ∀ n, (Instr.checkKey e (n + 1) k v).run P w = .ok () w := fun n => by cases v <;> simp [Instr.checkKey, run_underlying hk]
  exact key 9999
theorem run_findKey {P : Program} {w : World} {k : TypeId} {s : List UInt8} {es : List (List UInt8 × Int)} {ents : List MapEntry} (hk : P.underlying k = some .string) (h : ents.map (fun e => (e.key, e.val)) = es.map (fun p => (Value.string ⟨p.1.toArray⟩, Value.int .i64 p.2))) :
    (Instr.findKey k (.string ⟨s.toArray⟩) ents).run P w = .ok ((mfind es s 0).map fun x => (x.1, Value.int .i64 x.2)) w := by
  simp [Instr.findKey, run_underlying hk, findNow_mfind s es ents 0 h]
theorem rdLookup_ok {P L t x k v' p w ok φ vx vk} (h : rdLookup P L t x k = some (v', p)) (hp : p) (hh : HeapOK w ok L φ) (hx : R w ok L φ x vx) (hk : R w ok L φ k vk) :
    ∃ v, (Instr.lookup t vx vk false).run P w = .ok v w ∧ R w ok L φ v' v := by
  unfold rdLookup at h
  split at h <;> try (simp at h; done)
  rename_i e hs
  obtain ⟨kt, hu, hku⟩ := strKey_spec hs
  split at h <;> try (simp at h; done)
  rename_i id
  split at h <;> try (simp at h; done)
  rename_i es hL
  split at h <;> simp only [Option.some.injEq, reduceCtorEq, Prod.mk.injEq] at h
  rename_i s
  obtain ⟨rfl, rfl⟩ := h
  obtain ⟨b, ents, clock, rfl, hφ, hb, he⟩ := mapInv hh hx hL
  obtain rfl : vk = .string ⟨s.toArray⟩ := by cases hk with | pure _ _ h => cases h; rfl
  refine ⟨.int .i64 (mget es s), ?_, .pure _ _ (.int _ _)⟩
  have hget : (getObj b).run P w = .ok (.map ents.toArray clock) w := by simp [getObj, Sem.run, hb]
  obtain ⟨i, u, hi, hz, hzo⟩ := zT_spec hp
  have hz0 : u = .int .i64 0 := by
    unfold AV.ofZero at hzo
    split at hzo
    · cases hzo
    · unfold AV.ofVal at hzo
      split at hzo <;> cases hzo
      rfl
  subst hz0
  have hf := run_findKey (P := P) (w := w) (s := s) hku he
  rw [mfind_get s es 0]
  simp only [Instr.lookup, Sem.run_bind, run_underlying hu, Result.andThen_ok, hget, Sem.run_pure, run_checkKey hku, hf]
  cases hm : mfind es s 0 with
  | none => simp [zeroValue, typeInfo, hi, hz]
  | some x => obtain ⟨j, y⟩ := x; simp
theorem efMapPut_ok {P L t x k y v' id blk p w0 X ok φ w vx vk vy} (h : efMapPut P L t x k y = some (v', id, blk, p)) (hh : HeapOK w ok L φ) (hx : R w ok L φ x vx) (hk : R w ok L φ k vk) (hy : R w ok L φ y vy) :
    v' = .any ∧ ∃ w' φ', (Instr.mapUpdate t vx vk vy).run P w = .ok () w' ∧ Ext w0 X L ok φ w (updL L id blk) ok φ' w' := by
  unfold efMapPut at h
  split at h <;> try (simp at h; done)
  rename_i e hs
  obtain ⟨kt, hu, hku⟩ := strKey_spec hs
  split at h <;> try (simp at h; done)
  rename_i id'
  split at h <;> try (simp at h; done)
  rename_i es hL
  split at h <;> simp only [Option.some.injEq, reduceCtorEq, Prod.mk.injEq] at h
  rename_i s n
  obtain ⟨rfl, rfl, rfl, rfl⟩ := h
  obtain ⟨b, ents, clock, rfl, hφ, hb, he⟩ := mapInv hh hx hL
  obtain rfl : vk = .string ⟨s.toArray⟩ := by cases hk with | pure _ _ h => cases h; rfl
  obtain rfl : vy = .int .i64 n := by cases hy with | pure _ _ h => cases h; rfl
  have hlt : b < w.heap.size := hh.lt hφ
  have hget : (getObj b).run P w = .ok (.map ents.toArray clock) w := by simp [getObj, Sem.run, hb]
  have hset : ∀ o, (setObj b o).run P w = .ok () { w with heap := w.heap.setIfInBounds b o } := fun o => by simp [setObj, Sem.run, hb]
  have hwr : ∀ o, Wr b w { w with heap := w.heap.setIfInBounds b o } := fun o => ⟨rfl, rfl, rfl, by simp, fun k hk => by simp [Array.getElem?_setIfInBounds_ne (Ne.symm hk)]⟩
  have hnew : ∀ o, ({ w with heap := w.heap.setIfInBounds b o } : World).heap[b]? = some o := fun o => by simp [hlt]
  have hf := run_findKey (P := P) (w := w) (s := s) hku he
  cases hm : mfind es s 0 with
  | none =>
    refine ⟨rfl, { w with heap := w.heap.setIfInBounds b (.map (ents ++ [(MapEntry.mk (.string ⟨s.toArray⟩) (.int .i64 n) clock)]).toArray (clock + 1)) }, φ, ?_, ?_⟩
    · rw [hm] at hf
      simp only [Instr.mapUpdate, Sem.run_bind, run_underlying hu, Result.andThen_ok, hget, run_checkKey hku, hf, Option.map_none]
      have := hset (.map (ents ++ [(MapEntry.mk (.string ⟨s.toArray⟩) (.int .i64 n) clock)]).toArray (clock + 1))
      simp only [List.push_toArray, this, Result.andThen_ok, Sem.run_pure]
    · exact Ext.wrote hh hφ (hwr _) (.inr ⟨_, _, hL, trivial, hnew _, .map _ (ents ++ [_]) _ (by rw [mfind_none s n es 0 hm, List.map_append, List.map_append, he]; rfl)⟩)
  | some x =>
    obtain ⟨j, y⟩ := x
    obtain ⟨_, hj, hjs, hput⟩ := mfind_some s n es 0 j y hm
    simp only [Nat.sub_zero] at hj hjs hput
    have hel : ents.length = es.length := by have := congrArg List.length he; simpa using this
    have hej : ents[j]? = some ents[j] := List.getElem?_eq_getElem (by omega)
    have hkv : (ents[j].key, ents[j].val) = (Value.string ⟨s.toArray⟩, Value.int .i64 y) := by
      have := congrArg (fun l => l[j]?) he
      simp only [List.getElem?_map, hej, hjs, Option.map_some, Option.some.injEq] at this
      exact this
    have hkk : ents[j].key = .string ⟨s.toArray⟩ := (Prod.mk.injEq .. ▸ hkv).1
    refine ⟨rfl, { w with heap := w.heap.setIfInBounds b (.map (ents.set j { ents[j] with key := .string ⟨s.toArray⟩, val := .int .i64 n }).toArray clock) }, φ, ?_, ?_⟩
    · rw [hm] at hf
      have hmod : ents.toArray.modify j (fun e => { e with key := Value.string ⟨s.toArray⟩, val := Value.int .i64 n }) = (ents.set j { ents[j] with key := .string ⟨s.toArray⟩, val := .int .i64 n }).toArray := by
        apply Array.ext'
        simp only [Array.toList_modify]
        apply List.ext_getElem?
        intro k
        rw [List.getElem?_modify, List.getElem?_set]
        by_cases e2 : j = k
        · subst e2; simp [hej, show j < ents.length by omega]
        · simp [e2]
      have := hset (.map (ents.set j { ents[j] with key := .string ⟨s.toArray⟩, val := .int .i64 n }).toArray clock)
      have hbits : Instr.sameBits 10000 (.string ⟨s.toArray⟩) (.string ⟨s.toArray⟩) = true := by
        have hb2 : ((⟨s.toArray⟩ : ByteArray) == ⟨s.toArray⟩) = true := by rw [beq_toListBytes]; simp
        have : ∀ n, Instr.sameBits (n + 1) (.string ⟨s.toArray⟩) (.string ⟨s.toArray⟩) = true := fun n => by simp only [Instr.sameBits, hb2]
        exact this 9999
      simp only [Instr.mapUpdate, Sem.run_bind, run_underlying hu, Result.andThen_ok, hget, run_checkKey hku, hf, Option.map_some, List.getElem?_toArray, hej, Option.getD_some, hkk, Instr.keyThatStays, hbits, if_true, Sem.run_pure, hmod, this]
    · refine Ext.wrote hh hφ (hwr _) (.inr ⟨_, _, hL, trivial, hnew _, .map _ _ _ ?_⟩)
      rw [hput, List.map_set, List.map_set, he]
theorem Ext.grew {w0 X L ok φ w w' id b sz ro d c l vs0 vs rest rest' e lo hi} (h : HeapOK w ok L φ) (hL : L id = some (.cells sz ro d c)) (hb : φ id = some b) (hw : Wr b w w')
    (hold : w.heap[b]? = some (.cells (vs0 ++ rest).toArray e (lo, hi))) (hnew : w'.heap[b]? = some (.cells (vs0 ++ (vs ++ rest')).toArray e (lo, hi)))
    (hlen : (vs ++ rest').length = rest.length) (hfz : BF d e (vs0 ++ rest).length lo hi)
    (hre : RE w ok L φ sz c vs0) (hrl : RE w ok L φ sz l vs) : Ext w0 X L ok φ w (updL L id (.cells sz ro d (c ++ l))) ok φ w' := by
  have hsame : ∀ k o, ok k o → w'.cell? ⟨k, o, none⟩ = w.cell? ⟨k, o, none⟩ := fun k o hk => by
    by_cases e1 : k = b
    · subst e1
      obtain ⟨sz1, d1, c1, h1, h2⟩ := (h.shut k o hk).2 id hb
      rw [hL] at h1; cases h1
      rw [cell_blk hnew, cell_blk hold]
      have : o < vs0.length := by rw [hre.1]; exact h2
      simp [List.getElem?_append_left this]
    · exact World.cell?_of_block (a := ⟨k, o, none⟩) (hw.block k e1)
  have hother : ∀ i k, φ i = some k → i ≠ id → k ≠ b := fun i k hi hne e => hne (h.inj i id b (e ▸ hi) hb)
  have hcap : ∀ k n, CapOK w k n → CapOK w' k n := fun k n hk => by
    by_cases e1 : k = b
    · subst e1
      obtain ⟨cur, e', fz, h1, h2⟩ := hk
      rw [hold] at h1; cases h1
      exact ⟨_, _, _, hnew, by simp only [List.size_toArray, List.length_append] at h2 hlen ⊢; omega⟩
    · exact capOK_of_heap (hw.block k e1) hk
  have keep : Keeps w ok L φ w' ok (updL L id (.cells sz ro d (c ++ l))) φ := by
    refine ⟨fun _ _ h => h, hsame, fun i sz1 ro1 d1 c1 hi => ?_, fun i bb hi hcc => ?_⟩
    · by_cases e1 : id = i
      · subst e1
        rw [hL] at hi; cases hi
        exact ⟨ro, d, c ++ l, by simp [updL], by simp, fun _ => ⟨rfl, fun b' n _ hk => hcap b' n hk⟩⟩
      · exact ⟨ro1, d1, c1, by simp [updL, e1, hi], Nat.le_refl _, fun _ => ⟨rfl, fun b' n _ hk => hcap b' n hk⟩⟩
    · have e1 : id ≠ i := fun e1 => by subst e1; rw [hL] at hi; cases hi; simp [Blk.isC] at hcc
      exact ⟨bb, by simp [updL, e1, hi], Blk.same_refl hcc, rfl⟩
  have hk := fun a v hr => R.keep (a := a) (v := v) keep hr
  refine ⟨keep, ⟨?_, ?_, ?_, h.inj, ?_⟩, ?_, fun ho _ => ho, fun _ _ _ _ h => .inl h, fun k hk => ⟨(hw.block k (fun e => hk.name id (by rw [e]; exact hb))).trans hk.at_, hk.name, hk.shut⟩⟩
  · intro i sz1 ro1 d1 c1 hii
    by_cases e1 : id = i
    · subst e1
      simp only [updL, if_true, Option.some.injEq, Blk.cells.injEq] at hii
      obtain ⟨rfl, rfl, rfl, rfl⟩ := hii
      refine .inr ⟨b, vs0 ++ vs, rest', e, lo, hi, hb, by rw [hnew, List.append_assoc], ⟨fun hf k hk' => hfz.1 hf k ?_, hfz.2⟩, (hre.append hrl).keep hk⟩
      simp only [List.length_append] at hk' hlen ⊢; omega
    · simp only [updL, if_neg e1] at hii
      rcases h.blk i sz1 ro1 d1 c1 hii with h1 | ⟨b', vs1, rest1, ee, lo1, hi1, h1, h2, h3, h4⟩
      · exact .inl h1
      · exact .inr ⟨b', vs1, rest1, ee, lo1, hi1, h1, by rw [hw.block b' (hother i b' h1 (Ne.symm e1))]; exact h2, h3, h4.keep hk⟩
  · intro i bb hi hcc
    have e1 : id ≠ i := fun e1 => by subst e1; simp only [updL, if_true, Option.some.injEq] at hi; subst hi; simp [Blk.isC] at hcc
    simp only [updL, if_neg e1] at hi
    obtain ⟨b', o', h1, h2, h3⟩ := h.obj i bb hi hcc
    exact ⟨b', o', h1, by rw [hw.block b' (hother i b' h1 (Ne.symm e1))]; exact h2, h3.keep hk⟩
  · intro i hi
    by_cases e1 : id = i
    · subst e1; simp [updL] at hi
    · simp only [updL, if_neg e1] at hi; exact h.dom i hi
  · intro k o hk'
    obtain ⟨h1, h2⟩ := h.shut k o hk'
    refine ⟨by rw [hw.size]; exact h1, fun i hi => ?_⟩
    by_cases e1 : id = i
    · subst e1
      obtain ⟨sz1, d1, c1, h3, h4⟩ := h2 id hi
      rw [hL] at h3; cases h3
      refine ⟨sz, d, c ++ l, by simp [updL], ?_⟩
      rw [List.length_append, Nat.add_mul]; omega
    · simp only [updL, if_neg e1]; exact h2 i hi
  · intro ho hf
    refine ⟨hw.os.trans hf.os, hw.tape.trans hf.tape, hw.output.trans hf.output, by rw [hw.size]; exact hf.size, fun k hk hx => ?_⟩
    have hne : k ≠ b := fun e => by
      subst e
      rcases ho id k hb with h1 | h1
      · exact hx h1
      · omega
    rw [hw.block k hne]
    exact hf.block k hk hx
theorem Ext.moved {w0 X L ok φ w w' id sz ro d c c' vs rest e lo hi} (h : HeapOK w ok L φ) (hw0 : w0.heap.size ≤ w.heap.size) (hL : L id = some (.cells sz ro d c)) (hlt : c.length < c'.length)
    (hg : Grow (.cells (vs ++ rest).toArray e (lo, hi)) w w') (hfz : BF d e (vs ++ rest).length lo hi) (hre : RE w ok L φ sz c' vs) :
    Ext w0 X L ok φ w (updL L id (.cells sz ro d c')) ok (updP φ id (some w.heap.size)) w' := by
  have hc : ∀ b o, ok b o → w'.cell? ⟨b, o, none⟩ = w.cell? ⟨b, o, none⟩ := fun b o hb =>
    World.cell?_of_block (a := ⟨b, o, none⟩) (hg.block b (h.shut b o hb).1)
  have keep : Keeps w ok L φ w' ok (updL L id (.cells sz ro d c')) (updP φ id (some w.heap.size)) := by
    refine ⟨fun _ _ h => h, hc, fun i sz1 ro1 d1 c1 hi' => ?_, fun i bb hi' hcc => ?_⟩
    · by_cases e1 : id = i
      · subst e1
        rw [hL] at hi'; cases hi'
        exact ⟨ro, d, c', by simp [updL], by omega, fun e2 => by omega⟩
      · exact ⟨ro1, d1, c1, by simp [updL, e1, hi'], Nat.le_refl _, fun _ => ⟨by simp [updP, e1], fun b n hb hcap => capOK_of_heap (hg.block b (capOK_lt hcap)) hcap⟩⟩
    · have e1 : id ≠ i := fun e1 => by subst e1; rw [hL] at hi'; cases hi'; simp [Blk.isC] at hcc
      exact ⟨bb, by simp [updL, e1, hi'], Blk.same_refl hcc, by simp [updP, e1]⟩
  have hk := fun a v hr => R.keep (a := a) (v := v) keep hr
  refine ⟨keep, ⟨?_, ?_, ?_, ?_, ?_⟩, ?_, ?_, fun _ _ _ _ h => .inl h, fun b hb => ?_⟩
  rotate_left 7
  · have hlt : b < w.heap.size := (Array.getElem?_eq_some_iff.1 hb.at_).1
    refine ⟨(hg.block b hlt).trans hb.at_, fun i hi => ?_, hb.shut⟩
    simp only [updP] at hi
    split at hi
    · cases hi; omega
    · exact hb.name i hi
  · intro i sz1 ro1 d1 c1 hi'
    by_cases e1 : id = i
    · subst e1
      simp only [updL, if_true, Option.some.injEq, Blk.cells.injEq] at hi'
      obtain ⟨rfl, rfl, rfl, rfl⟩ := hi'
      exact .inr ⟨w.heap.size, vs, rest, e, lo, hi, by simp [updP], hg.new, hfz, hre.keep hk⟩
    · simp only [updL, if_neg e1] at hi'
      simp only [updP, if_neg e1]
      rcases h.blk i sz1 ro1 d1 c1 hi' with h1 | ⟨b, vs1, rest1, ee, lo1, hi1, h1, h2, h3, h4⟩
      · exact .inl h1
      · exact .inr ⟨b, vs1, rest1, ee, lo1, hi1, h1, by rw [hg.block b (h.lt h1)]; exact h2, h3, h4.keep hk⟩
  · intro i bb hi' hcc
    have e1 : id ≠ i := fun e1 => by subst e1; simp only [updL, if_true, Option.some.injEq] at hi'; subst hi'; simp [Blk.isC] at hcc
    simp only [updL, if_neg e1] at hi'
    obtain ⟨b, o', h1, h2, h3⟩ := h.obj i bb hi' hcc
    exact ⟨b, o', by simp [updP, e1, h1], by rw [hg.block b (h.lt h1)]; exact h2, h3.keep hk⟩
  · intro i hi'
    by_cases e1 : id = i
    · subst e1; simp [updL] at hi'
    · simp only [updL, if_neg e1] at hi'; simp [updP, e1, h.dom i hi']
  · intro i j b hi' hj
    simp only [updP] at hi' hj
    split at hi' <;> split at hj
    · omega
    · cases hi'; exact absurd (h.lt hj) (by omega)
    · cases hj; exact absurd (h.lt hi') (by omega)
    · exact h.inj i j b hi' hj
  · intro b o hb
    obtain ⟨h1, h2⟩ := h.shut b o hb
    refine ⟨by rw [hg.size]; omega, fun i hi' => ?_⟩
    simp only [updP] at hi'
    split at hi'
    · cases hi'; omega
    · rename_i e1; simp only [updL, if_neg e1]; exact h2 i hi'
  · intro _ hf
    exact hf.trans (X := X) (Y := fun _ => False) ⟨hg.os, hg.tape, hg.output, by rw [hg.size]; omega, fun k hk _ => hg.block k hk⟩ (fun _ h => h.elim)
  · intro ho _ i b hi'
    simp only [updP] at hi'
    split at hi'
    · cases hi'; exact .inr hw0
    · exact ho i b hi'
theorem Ext.virt {w0 X L ok φ w id sz d} (h : HeapOK w ok L φ) (hid : L id = none) :
    Ext w0 X L ok φ w (updL L id (.cells sz false d [])) ok φ w := by
  have hne : ∀ i blk', L i = some blk' → id ≠ i := fun i blk' hi e => by subst e; rw [hid] at hi; cases hi
  have keep : Keeps w ok L φ w ok (updL L id (.cells sz false d [])) φ :=
    ⟨fun _ _ h => h, fun _ _ _ => rfl, fun i sz1 ro1 d1 c1 hi => ⟨ro1, d1, c1, by simp [updL, hne i _ hi, hi], Nat.le_refl _, fun _ => ⟨rfl, fun _ _ _ h => h⟩⟩,
      fun i bb hi hcc => ⟨bb, by simp [updL, hne i _ hi, hi], Blk.same_refl hcc, rfl⟩⟩
  have hk := fun a v hr => R.keep (a := a) (v := v) keep hr
  refine ⟨keep, ⟨?_, ?_, ?_, h.inj, ?_⟩, fun _ hf => hf, fun ho _ => ho, fun _ _ _ _ h => .inl h, fun _ h => h⟩
  · intro i sz1 ro1 d1 c1 hi
    by_cases e1 : id = i
    · subst e1
      simp only [updL, if_true, Option.some.injEq, Blk.cells.injEq] at hi
      exact .inl ⟨h.dom id hid, hi.2.2.2.symm⟩
    · simp only [updL, if_neg e1] at hi
      rcases h.blk i sz1 ro1 d1 c1 hi with h1 | ⟨b', vs1, rest1, ee, lo1, hi1, h1, h2, h3, h4⟩
      · exact .inl h1
      · exact .inr ⟨b', vs1, rest1, ee, lo1, hi1, h1, h2, h3, h4.keep hk⟩
  · intro i bb hi hcc
    have e1 : id ≠ i := fun e1 => by subst e1; simp only [updL, if_true, Option.some.injEq] at hi; subst hi; simp [Blk.isC] at hcc
    simp only [updL, if_neg e1] at hi
    obtain ⟨b', o', h1, h2, h3⟩ := h.obj i bb hi hcc
    exact ⟨b', o', h1, h2, h3.keep hk⟩
  · intro i hi
    by_cases e1 : id = i
    · subst e1; simp [updL] at hi
    · simp only [updL, if_neg e1] at hi; exact h.dom i hi
  · intro b o hb
    obtain ⟨h1, h2⟩ := h.shut b o hb
    refine ⟨h1, fun i hi => ?_⟩
    have e1 : id ≠ i := fun e1 => by subst e1; rw [h.dom id hid] at hi; cases hi
    simp only [updL, if_neg e1]; exact h2 i hi
end Go.Abs
end
section
set_option linter.unusedVariables false
set_option linter.unusedSimpArgs false
namespace Go.Abs
def srcA (L : Nat → Option Blk) (sz : Nat) (x : AV) : Option (List AV × Prop) :=
  match x with
  | .nils => some ([], True)
  | .nil0 => some ([], True)
  | .str s => some (s.map byteAV, sz = 1)
  | x => match elemsA L x with
    | some (sz', l, q) => some (l, q ∧ sz' = sz)
    | none => none
theorem RE.bytes (w : World) (ok : Nat → Nat → Prop) (L : Nat → Option Blk) (φ : Nat → Option Nat) (s : List UInt8) : RE w ok L φ 1 (s.map byteAV) (bytesV s) := by
  refine RC.re1 ⟨by simp [bytesV], fun i v hv => ?_, fun i a v ha hv => ?_⟩ (fun x hx => ?_)
  · simp only [bytesV, List.getElem?_map, Option.map_eq_some_iff] at hv
    obtain ⟨b, _, rfl⟩ := hv; rfl
  · simp only [bytesV, List.getElem?_map, Option.map_eq_some_iff] at ha hv
    obtain ⟨b, hb, rfl⟩ := ha
    obtain ⟨b', hb', rfl⟩ := hv
    rw [hb] at hb'; cases hb'
    exact .pure _ _ (.int _ _)
  · obtain ⟨b, _, rfl⟩ := List.mem_map.1 hx; rfl
theorem cell_of_heap {w w' : World} (h : w'.heap = w.heap) (a : Addr) : w'.cell? a = w.cell? a := by simp [World.cell?, h]
theorem src_ok {P L sz x l q w ok φ v} (h : srcA L sz x = some (l, q)) (hq : q) (hh : HeapOK w ok L φ) (hx : R w ok L φ x v) :
    ∃ vs, RE w ok L φ sz l vs ∧ ∀ w', w'.heap = w.heap → (Builtin.lenOf v).run P w' = .ok l.length w' ∧ ∀ m, m ≤ l.length → (Builtin.firstCells sz m v).run P w' = .ok (vs.take (m * sz)).toArray w' := by
  unfold srcA at h
  split at h
  · simp only [Option.some.injEq, Prod.mk.injEq] at h
    obtain ⟨rfl, rfl⟩ := h
    obtain rfl : v = .slice none 0 0 := by cases hx with | pure _ _ h => cases h; rfl
    exact ⟨[], RE.nil .., fun w' _ => ⟨by simp [Builtin.lenOf], fun m hm => by simp [Builtin.firstCells]⟩⟩
  · simp only [Option.some.injEq, Prod.mk.injEq] at h
    obtain ⟨rfl, rfl⟩ := h
    obtain ⟨a0, rfl⟩ : ∃ a0, v = .slice a0 0 0 := by cases hx with | pure _ _ h => cases h; exact ⟨_, rfl⟩
    refine ⟨[], RE.nil .., fun w' _ => ⟨by simp [Builtin.lenOf], fun m hm => ?_⟩⟩
    have hm0 : m = 0 := by simpa using hm
    subst hm0
    cases a0 <;> simp [Builtin.firstCells, loadCells, loadCellsFrom]
  · rename_i s
    simp only [Option.some.injEq, Prod.mk.injEq] at h
    obtain ⟨rfl, rfl⟩ := h
    subst hq
    obtain rfl : v = .string ⟨s.toArray⟩ := by cases hx with | pure _ _ h => cases h; rfl
    refine ⟨bytesV s, RE.bytes .., fun w' _ => ⟨by simp [Builtin.lenOf, ByteArray.size], fun m hm => ?_⟩⟩
    have e : (ByteArray.mk s.toArray).extract 0 m = ⟨(s.take m).toArray⟩ := by
      apply ByteArray.ext; simp [ByteArray.data_extract, List.extract_eq_take_drop]
    simp [Builtin.firstCells, e, bytesV, List.map_take]
  · split at h <;> simp only [Option.some.injEq, reduceCtorEq, Prod.mk.injEq] at h
    rename_i sz' l' q' he
    obtain ⟨rfl, rfl⟩ := h
    obtain ⟨hq', rfl⟩ := hq
    obtain ⟨a, n, cap, rfl, rfl, vs, hre, hc⟩ := elems_ok he hq' hh hx
    refine ⟨vs, hre, fun w' hw' => ⟨by simp [Builtin.lenOf], fun m hm => ?_⟩⟩
    have hmm : m * sz' ≤ l'.length * sz' := Nat.mul_le_mul_right _ hm
    have hvl := hre.1
    rcases hc with ⟨rfl, rfl⟩ | ⟨pa, rfl, hc⟩
    · have : vs = [] := List.eq_nil_of_length_eq_zero (by simpa using hre.1)
      subst this
      simp [Builtin.firstCells]
    · rcases hc with rfl | ⟨b, o, rfl, hcell⟩
      · have : vs = [] := List.eq_nil_of_length_eq_zero (by simpa using hre.1)
        subst this
        have hm0 : m = 0 := by simpa using hm
        subst hm0
        simp [Builtin.firstCells, loadCells, loadCellsFrom]
      · have := run_loadCells' (P := P) (w := w') (b := b) (o := o) (vs.take (m * sz')) (fun j u hu => by
          rw [cell_of_heap hw']
          rw [List.getElem?_take] at hu
          split at hu
          · exact hcell j u hu
          · simp at hu)
        rw [show (vs.take (m * sz')).length = m * sz' by rw [List.length_take]; omega] at this
        simp [Builtin.firstCells, this]
def srcT (P : Program) (t : TypeId) : Bool := match P.underlying t with | some (.slice _) | some .string => true | _ => false
def lblA (el : TypeId) (d : AV) : AV → AV
  | .str _ => .iface el d
  | _ => d
theorem lblA_ty {P : Program} {el : TypeId} {d : AV} (h : zT P el = some d) (x : AV) : TyD (lblA el d x) el := by
  unfold lblA
  split
  · rfl
  · exact (zT_mark h).2 el
def efAppN (P : Program) (L : Nat → Option Blk) (id : Nat) (el : TypeId) (xT : TypeId) (sz : Nat) (d : AV) (by' : Nat) (x : AV) : Option (AV × Nat × Blk × Prop) :=
  match L id, srcA L sz x with
  | none, some (l, q) => some (.ref id 0 l.length l.length, id, .cells sz false (lblA el d x) l,
      q ∧ srcT P xT = true ∧ d.cells.all AV.flat = true ∧ d.cells.length = sz ∧ l.length ≤ maxInt ∧ l.length * by' ≤ 140737488355328)
  | _, _ => none
def efAppend (P : Program) (L : Nat → Option Blk) (id : Nat) (sT xT : TypeId) (s x : AV) : Option (AV × Nat × Blk × Prop) :=
  match P.underlying sT with
  | some (.slice el) => match szT P el, zT P el, byT P el with
    | some sz, some d, some by' =>
      match s with
      | .nils => efAppN P L id el xT sz d by' x
      | .nil0 => efAppN P L id el xT sz d by' x
      | .ref i off len hw => match L i, srcA L sz x with
        | some (.cells sz' ro d' c), some (l, q) => some (.ref i 0 (len + l.length) (hw + l.length), i, .cells sz' ro d' (c ++ l),
            q ∧ srcT P xT = true ∧ d.cells.all AV.flat = true ∧ d.cells.length = sz ∧ sz' = sz ∧ off = 0 ∧ hw = c.length ∧ len = hw ∧ len + l.length ≤ maxInt ∧ (len + l.length) * by' ≤ 140737488355328 ∧ notFz d' = true ∧ TyD d' el)
        | _, _ => none
      | _ => none
    | _, _, _ => none
  | _ => none
theorem zeroCells_size (z : Array Value) (n : Nat) : (Builtin.zeroCells z n).size = n * z.size := by simp [Builtin.zeroCells]
theorem srcT_cases {P : Program} {t : TypeId} (h : srcT P t = true) : (∃ e, P.underlying t = some (.slice e)) ∨ P.underlying t = some .string := by
  unfold srcT at h
  split at h
  · rename_i e hu; exact .inl ⟨e, hu⟩
  · rename_i hu; exact .inr hu
  · simp at h
section
variable {P : Program} {w : World} {sT xT ty el : TypeId} {i : TypeInfo} {base : Option Addr} {n cap m : Nat} {v : Value} {vs olds : List Value}
set_option maxHeartbeats 1000000 in
theorem run_append_in (hu : P.underlying sT = some (.slice el)) (hx : srcT P xT = true) (hi : P.info? el = some i)
    (hlen : (Builtin.lenOf v).run P w = .ok m w) (hfirst : (Builtin.firstCells i.size m v).run P w = .ok vs.toArray w) (hroom : n + m ≤ cap) :
    (Builtin.append_ #[sT, xT] ty #[.slice base n cap, v]).run P w =
      (match base with | some a => (storeCells (a.add (n * i.size)) vs).run P w | none => .ok () w).andThen fun _ w' => .ok (.slice base (n + m) cap) w' := by
  rcases srcT_cases hx with ⟨e, hD⟩ | hD
  · cases base <;> simp [Builtin.append_, run_underlying hu, sizeOf, typeInfo, hi, run_underlying hD, hlen, hroom, hfirst]
  · cases base <;> simp [Builtin.append_, run_underlying hu, sizeOf, typeInfo, hi, run_underlying hD, hlen, hroom, hfirst]
set_option maxHeartbeats 1000000 in
theorem run_append_out {z : Value} (hu : P.underlying sT = some (.slice el)) (hx : srcT P xT = true) (hi : P.info? el = some i) (hz : i.zero = some z)
    (hlen : (Builtin.lenOf v).run P w = .ok m w) (h1 : (Builtin.firstCells i.size m v).run P w.drew = .ok vs.toArray w.drew)
    (h2 : (Builtin.firstCells i.size n (.slice base n cap)).run P w.drew = .ok olds.toArray w.drew)
    (hroom : ¬ n + m ≤ cap) (h63 : n + m ≤ maxInt) (h47 : (n + m) * i.bytes ≤ 140737488355328) :
    (Builtin.append_ #[sT, xT] ty #[.slice base n cap, v]).run P w =
      .ok (.slice (some ⟨w.heap.size, 0, none⟩) (n + m) (grownCap w (n + m) cap el))
        (w.drew.alloc (.cells (olds.toArray ++ vs.toArray ++ Builtin.zeroCells z.cells (grownCap w (n + m) cap el - (n + m))) el)) := by
  have h63' : ¬ (9223372036854775807 < ((n : Int) + (m : Int))) := by simp only [maxInt] at h63; omega
  have h48' : ¬ (281474976710656 < Builtin.nextslicecap (n + m) cap * i.bytes) := by
    have := growslice_fits (need := n + m) (old := cap) (bytes := i.bytes) (by omega) h47
    omega
  rcases srcT_cases hx with ⟨e, hD⟩ | hD
  · simp [Builtin.append_, run_underlying hu, sizeOf, typeInfo, zeroValue, hi, hz, run_underlying hD, hlen, hroom, h63', h48', Question.forced, h1, h2, newRow, grownCap]
    congr 2
    apply Array.ext'
    simp [List.append_assoc]
  · simp [Builtin.append_, run_underlying hu, sizeOf, typeInfo, zeroValue, hi, hz, run_underlying hD, hlen, hroom, h63', h48', Question.forced, h1, h2, newRow, grownCap]
    congr 2
    apply Array.ext'
    simp [List.append_assoc]
end
theorem szT_of {P t i n} (hi : P.info? t = some i) (h : szT P t = some n) : i.size = n := by simp [szT, hi] at h; exact h
theorem byT_of {P t i n} (hi : P.info? t = some i) (h : byT P t = some n) : i.bytes = n := by simp [byT, hi] at h; exact h
theorem RE.ones {w ok L φ sz c vs} (h : RE w ok L φ sz c vs) : ∀ u ∈ vs, u.oneCell' = true := by
  intro u hu
  obtain ⟨k, hk, rfl⟩ := List.mem_iff_getElem.1 hu
  have hk' : k < c.length * sz := by rw [← h.1]; exact hk
  have hsz : 0 < sz := by rcases Nat.eq_zero_or_pos sz with h0 | h0; simp [h0] at hk'; exact h0
  have hi : k / sz < c.length := by rw [Nat.div_lt_iff_lt_mul hsz]; exact hk'
  have hj : k % sz < sz := Nat.mod_lt _ hsz
  have hki : k / sz * sz + k % sz = k := by rw [Nat.mul_comm]; exact Nat.div_add_mod k sz
  have hcl := h.2.1 _ _ (List.getElem?_eq_getElem hi)
  obtain ⟨v, h1, h2, _⟩ := h.2.2 _ _ _ _ (List.getElem?_eq_getElem hi) (List.getElem?_eq_getElem (by omega : k % sz < (c[k / sz]).cells.length))
  rw [hki, List.getElem?_eq_getElem hk] at h1
  cases h1; exact h2
theorem efAppN_ok {P L id sT xT x ty v' id' blk p w0 X ok φ w vs vx el sz d by'} (hu : P.underlying sT = some (.slice el)) (hsz : szT P el = some sz) (hz : zT P el = some d) (hby : byT P el = some by')
    (h : efAppN P L id el xT sz d by' x = some (v', id', blk, p)) (hp : p) (hh : HeapOK w ok L φ) (hw0 : w0.heap.size ≤ w.heap.size)
    (hs : ∃ a0, vs = .slice a0 0 0) (hx : R w ok L φ x vx) : EffOK P w0 X (Builtin.append_ #[sT, xT] ty #[vs, vx]) L ok φ w v' id' blk := by
  unfold efAppN at h
  split at h <;> simp only [Option.some.injEq, reduceCtorEq, Prod.mk.injEq] at h
  rename_i l q hL hsrc
  obtain ⟨rfl, rfl, rfl, rfl⟩ := h
  obtain ⟨hq, hxt, hf, hdl, hmx, hbb⟩ := hp
  obtain ⟨i, u, hi, hzu, _, _, hrc⟩ := zero_ok w ok L φ hz hf
  have e1 := szT_of hi hsz
  have e2 := byT_of hi hby
  subst e1
  obtain ⟨a0, rfl⟩ := hs
  obtain ⟨ns, hre, hrun⟩ := src_ok (P := P) hsrc hq hh hx
  have hns : ns.take (l.length * i.size) = ns := List.take_of_length_le (by rw [hre.1]; exact Nat.le_refl _)
  by_cases hl0 : l = []
  · subst hl0
    have : ns = [] := List.eq_nil_of_length_eq_zero (by simpa using hre.1)
    subst this
    refine ⟨.slice a0 0 0, w, φ, ?_, Ext.virt hh hL, ?_⟩
    · have := run_append_in (P := P) (w := w) (sT := sT) (xT := xT) (ty := ty) (base := a0) (n := 0) (cap := 0) (m := 0) (v := vx) (vs := []) hu hxt hi (hrun w rfl).1 (by simpa using (hrun w rfl).2 0 (Nat.zero_le _)) (Nat.le_refl _)
      cases a0 <;> simpa [storeCells] using this
    · exact .ref id 0 0 0 _ _ _ i.size false _ [] (by simp [updL]; rfl) (Nat.le_refl _) (fun _ => ⟨Nat.le_refl _, .inl ⟨rfl, _, rfl⟩⟩)
  · have hpos : 0 < l.length := List.length_pos_iff.2 hl0
    have hout := run_append_out (P := P) (w := w) (sT := sT) (xT := xT) (ty := ty) (base := a0) (n := 0) (cap := 0) (m := l.length) (v := vx) (vs := ns) (olds := []) hu hxt hi hzu (hrun w rfl).1
      (by rw [← hns]; exact (hrun w.drew rfl).2 _ (Nat.le_refl _)) (by cases a0 <;> simp [Builtin.firstCells, loadCells, loadCellsFrom]) (by omega) (by simpa using hmx) (by rw [e2]; simpa using hbb)
    simp only [Nat.zero_add] at hout
    have hext := Ext.new (w0 := w0) (X := X) (blk := .cells i.size false (lblA el d x) l) hh hw0 hL (Grow.drewAlloc w (.cells (([] : List Value).toArray ++ ns.toArray ++ Builtin.zeroCells u.cells (grownCap w l.length 0 el - l.length)) el))
      (.inl ⟨i.size, false, _, l, ns, (Builtin.zeroCells u.cells (grownCap w l.length 0 el - l.length)).toList, el, 0, 0, rfl, by congr 1; apply Array.ext'; simp, ⟨fun _ k _ => by omega, lblA_ty hz x⟩, hre⟩)
    refine ⟨_, _, _, hout, hext, .ref id 0 _ _ _ _ _ i.size false (lblA el d x) l (by simp [updL]) (by simp) (fun _ => ⟨by omega, .inr ⟨w.heap.size, _, _, by simp [updP], rfl, ?_, ?_, ?_⟩⟩)⟩
    · exact grownCap_ge w l.length 0 el
    · exact grownCap_le_maxLen _ _ _ _ (by simp only [maxInt] at hmx; simp [maxLen]; omega)
    · refine .inr ⟨by simp, _, _, _, heap_alloc_new w.drew _, ?_⟩
      have hge := grownCap_ge w l.length 0 el
      have hus : u.cells.size = i.size := by have := hrc.1; simp at this; omega
      simp only [Array.size_append, List.size_toArray, List.length_nil, hre.1, zeroCells_size, hus, ← Nat.add_mul, Nat.zero_add]
      refine Nat.mul_le_mul_right _ ?_
      omega
theorem efAppend_ok {P L id sT xT s x ty v' id' blk p w0 X ok φ w vs vx} (h : efAppend P L id sT xT s x = some (v', id', blk, p)) (hp : p) (hh : HeapOK w ok L φ) (hw0 : w0.heap.size ≤ w.heap.size)
    (hs : R w ok L φ s vs) (hx : R w ok L φ x vx) : EffOK P w0 X (Builtin.append_ #[sT, xT] ty #[vs, vx]) L ok φ w v' id' blk := by
  unfold efAppend at h
  split at h
  · rename_i el hu
    split at h
    · rename_i sz d by' hsz hz hby
      split at h
      · exact efAppN_ok hu hsz hz hby h hp hh hw0 (by cases hs with | pure _ _ h => cases h; exact ⟨_, rfl⟩) hx
      · exact efAppN_ok hu hsz hz hby h hp hh hw0 (by cases hs with | pure _ _ h => cases h; exact ⟨_, rfl⟩) hx
      · rename_i i' off len hw
        split at h <;> simp only [Option.some.injEq, reduceCtorEq, Prod.mk.injEq] at h
        rename_i sz' ro d' c l q hL hsrc
        obtain ⟨rfl, rfl, rfl, rfl⟩ := h
        obtain ⟨hq, hxt, hf, hdl, rfl, rfl, hw1, rfl, hmx, hbb, hnf, htd⟩ := hp
        obtain ⟨i, u, hi, hzu, _, _, hrc⟩ := zero_ok w ok L φ hz hf
        have e1 := szT_of hi hsz
        have e2 := byT_of hi hby
        subst e1
        obtain ⟨sz1, ro1, d1, c1, hL1, hle, ⟨a, n, cap, rfl⟩, hr⟩ := hs.refInv
        rw [hL] at hL1; cases hL1
        obtain ⟨ns, hre, hrun⟩ := src_ok (P := P) hsrc hq hh hx
        have hns : ns.take (l.length * i.size) = ns := List.take_of_length_le (by rw [hre.1]; exact Nat.le_refl _)
        obtain ⟨g1, g2⟩ := hr hw1
        have hus : u.cells.size = i.size := by have := hrc.1; simp at this; omega
        have hl0 : l = [] → ns = [] := fun e => List.eq_nil_of_length_eq_zero (by rw [hre.1, e]; simp)
        have hn : n = len := by
          rcases g2 with ⟨g2, a1, g3⟩ | ⟨b, cap', pa, g2, g3, _⟩
          · cases g3; omega
          · cases g3; rfl
        subst hn
        by_cases hnil : l = [] ∧ n + l.length ≤ cap
        · obtain ⟨rfl, hroom⟩ := hnil
          have hn0 := hl0 rfl
          subst hn0
          refine ⟨.slice a n cap, w, φ, ?_, ?_, ?_⟩
          · have := run_append_in (P := P) (w := w) (sT := sT) (xT := xT) (ty := ty) (base := a) (n := n) (cap := cap) (m := 0) (v := vx) (vs := []) hu hxt hi (hrun w rfl).1 (by simpa using (hrun w rfl).2 0 (Nat.zero_le _)) hroom
            cases a <;> simpa [storeCells] using this
          · have : updL L i' (.cells i.size ro d' (c ++ [])) = L := by
              funext k; simp only [updL]; split
              · rename_i e1; subst e1; simpa using hL.symm
              · rfl
            rw [this]; exact Ext.refl hh
          · have : updL L i' (.cells i.size ro d' (c ++ [])) = L := by
              funext k; simp only [updL]; split
              · rename_i e1; subst e1; simpa using hL.symm
              · rfl
            rw [this]; exact hs
        · have hold : ∃ olds, RE w ok L φ i.size c olds ∧ (∀ w', w'.heap = w.heap → (Builtin.firstCells i.size n (.slice a n cap)).run P w' = .ok olds.toArray w') ∧
            (cap = 0 ∨ ∃ b rest e lo hi, a = some ⟨b, 0, none⟩ ∧ n ≤ cap ∧ cap ≤ maxLen ∧ φ i' = some b ∧ w.heap[b]? = some (.cells (olds ++ rest).toArray e (lo, hi)) ∧
              BF d' e (olds ++ rest).length lo hi ∧ cap * i.size ≤ (olds ++ rest).length) := by
            rcases g2 with ⟨g2, a1, g3⟩ | ⟨b, cap', pa, g2, g3, g4, g5, g6⟩
            · cases g3
              have hc : c = [] := List.eq_nil_of_length_eq_zero (by omega)
              subst hc
              exact ⟨[], RE.nil .., fun w' _ => by cases a <;> simp [Builtin.firstCells, loadCells, loadCellsFrom], .inl rfl⟩
            · cases g3
              rcases hh.live g2 with ⟨sz1, ro1, d1, c1, vs, rest, e, lo', hi', h1, h2, h3, h4⟩ | ⟨blk1, o1, h1, _, ho1⟩
              · rw [hL] at h1; cases h1
                have hvl : vs.length = n * i.size := by rw [h4.1, ← hw1]
                refine ⟨vs, h4, fun w' hw' => ?_, ?_⟩
                · rcases g6 with g6 | ⟨rfl, _⟩
                  · have hn0 : n = 0 := by omega
                    subst hn0
                    have : vs = [] := List.eq_nil_of_length_eq_zero (by rw [hvl]; omega)
                    subst this
                    simp [Builtin.firstCells, loadCells, loadCellsFrom]
                  · have := run_loadCells' (P := P) (w := w') (b := b) (o := 0) vs (fun j v hj => by
                      rw [cell_of_heap hw', cell_blk h2]
                      have hlt := (List.getElem?_eq_some_iff.1 hj).1
                      simp [List.getElem?_append_left hlt, hj])
                    rw [hvl] at this
                    simpa [Builtin.firstCells] using this
                · rcases g6 with g6 | ⟨rfl, g7⟩
                  · exact .inl g6
                  · refine .inr ⟨b, rest, e, lo', hi', by simp, g4, g5, g2, h2, h3, ?_⟩
                    obtain ⟨cur, e', fz, g8, g9⟩ := g7
                    rw [h2] at g8; cases g8
                    simpa using g9
              · rw [hL] at h1; cases h1; cases ho1
          obtain ⟨olds, hreo, hfirst, hcase⟩ := hold
          have hol : olds.length = n * i.size := by rw [hreo.1, ← hw1]
          have hnl : ns.length = l.length * i.size := hre.1
          by_cases hroom : n + l.length ≤ cap
          · -- in place
            have hin := run_append_in (P := P) (w := w) (sT := sT) (xT := xT) (ty := ty) (base := a) (n := n) (cap := cap) (m := l.length) (v := vx) (vs := ns) hu hxt hi (hrun w rfl).1
              (by rw [← hns]; exact (hrun w rfl).2 _ (Nat.le_refl _)) hroom
            have hlne : l ≠ [] := fun e => hnil ⟨e, hroom⟩
            have hlpos : 0 < l.length := List.length_pos_iff.2 hlne
            rcases hcase with hc0 | ⟨b, rest, e, lo, hi', rfl, hnc, hcm, hφ, hheap, hfz, hcapl⟩
            · omega
            · have hmul : (n + l.length) * i.size ≤ cap * i.size := Nat.mul_le_mul_right _ hroom
              rw [Nat.add_mul] at hmul
              obtain ⟨w', h5, h6, h7⟩ := run_storeCells_blk (P := P) b (n * i.size) e lo hi' ns 0 (olds ++ rest) w hheap (hfz.1 hnf) (by omega) hre.ones
              simp only [Nat.add_zero] at h7
              rw [← hol, List.take_left, ← List.drop_drop, List.drop_left] at h7
              have hlen2 : (ns ++ rest.drop ns.length).length = rest.length := by
                simp only [List.length_append, List.length_drop] at hcapl ⊢; omega
              have hext := Ext.grew (w0 := w0) (X := X) hh hL hφ h6 hheap h7 hlen2 hfz hreo hre
              refine ⟨.slice (some ⟨b, 0, none⟩) (n + l.length) cap, w', φ, ?_, hext, ?_⟩
              · rw [hin]
                simp only [addr_add_plain, Nat.zero_add, h5, Result.andThen_ok]
              · refine .ref i' 0 _ _ _ _ _ i.size ro d' (c ++ l) (by simp [updL]) (by simp [hw1]) (fun _ => ⟨by omega, .inr ⟨b, cap, _, hφ, rfl, hroom, hcm, .inr ⟨by simp, _, _, _, h7, ?_⟩⟩⟩)
                simp only [List.size_toArray, List.length_append] at hlen2 hcapl ⊢
                simp only [Nat.zero_add]; omega
          · have hout := run_append_out (P := P) (w := w) (sT := sT) (xT := xT) (ty := ty) (base := a) (n := n) (cap := cap) (m := l.length) (v := vx) (vs := ns) (olds := olds) hu hxt hi hzu (hrun w rfl).1
              (by rw [← hns]; exact (hrun w.drew rfl).2 _ (Nat.le_refl _)) (hfirst w.drew rfl) hroom (by omega) (by rw [e2]; exact hbb)
            have hl1 : 0 < l.length := by
              rcases g2 with ⟨g2, a1, g3⟩ | ⟨b, cap', pa, g2, g3, g4, _⟩
              · cases g3; omega
              · cases g3; omega
            have hext := Ext.moved (w0 := w0) (X := X) (d := d') (ro := ro) (c' := c ++ l) (rest := (Builtin.zeroCells u.cells (grownCap w (n + l.length) cap el - (n + l.length))).toList) (lo := 0) (hi := 0)
              hh hw0 hL (by simp; omega) (w' := w.drew.alloc (.cells (olds.toArray ++ ns.toArray ++ Builtin.zeroCells u.cells (grownCap w (n + l.length) cap el - (n + l.length))) el))
              (by
                have := Grow.drewAlloc w (.cells (olds.toArray ++ ns.toArray ++ Builtin.zeroCells u.cells (grownCap w (n + l.length) cap el - (n + l.length))) el)
                have e3 : (olds.toArray ++ ns.toArray ++ Builtin.zeroCells u.cells (grownCap w (n + l.length) cap el - (n + l.length))) = ((olds ++ ns) ++ (Builtin.zeroCells u.cells (grownCap w (n + l.length) cap el - (n + l.length))).toList).toArray := by
                  apply Array.ext'; simp
                rw [e3] at this ⊢
                exact this) ⟨fun _ k _ => by omega, htd⟩ (hreo.append hre)
            refine ⟨_, _, _, hout, hext, .ref i' 0 _ _ _ _ _ i.size ro d' (c ++ l) (by simp [updL]) (by simp [hw1]) (fun _ => ⟨by omega, .inr ⟨w.heap.size, _, _, by simp [updP], rfl, grownCap_ge .., ?_, ?_⟩⟩)⟩
            · exact grownCap_le_maxLen _ _ _ _ (by simp only [maxInt] at hmx; simp [maxLen]; omega)
            · refine .inr ⟨by simp, _, _, _, heap_alloc_new w.drew _, ?_⟩
              have hge := grownCap_ge w (n + l.length) cap el
              simp only [Array.size_append, List.size_toArray, hol, hre.1, zeroCells_size, hus, ← Nat.add_mul, Nat.zero_add]
              exact Nat.mul_le_mul_right _ (by omega)
      · simp at h
    · simp at h
  · simp at h
end Go.Abs
set_option linter.unusedVariables false
set_option linter.unusedSimpArgs false
namespace Go.Abs
theorem RE.replicate {w ok L φ sz} {d : AV} {u : Value} {k : Nat} (hdl : d.cells.length = sz) (hrc : RC w ok L φ d.cells u.cells.toList) : RE w ok L φ sz (List.replicate k d) (Builtin.zeroCells u.cells k).toList := by
  have hus : u.cells.size = sz := by have := hrc.1; simp at this; omega
  have hcell : ∀ j, j < sz → u.cells.toList[j]? = some u.cells[j]! := fun j hj => by
    have hj' : j < u.cells.size := by omega
    simp [hj', getElem!_pos]
  refine ⟨by simp [Builtin.zeroCells, hus], fun i x hx => ?_, fun i x j y hx hy => ?_⟩
  · rw [List.getElem?_replicate] at hx
    split at hx
    · cases hx; exact hdl
    · simp at hx
  · rw [List.getElem?_replicate] at hx
    split at hx
    · rename_i hik
      cases hx
      have hj : j < sz := by rw [← hdl]; exact (List.getElem?_eq_some_iff.1 hy).1
      have hlt := idx_lt hik hj
      refine ⟨u.cells[j]!, ?_, hrc.2.1 j _ (hcell j hj), hrc.2.2 j _ _ hy (hcell j hj)⟩
      simp only [Builtin.zeroCells, hus, Array.toList_map, Array.toList_range, List.getElem?_map, List.getElem?_range hlt, Option.map_some]
      rw [Nat.mul_comm, Nat.mul_add_mod, Nat.mod_eq_of_lt hj]
    · simp at hx
theorem Ext.splice {P : Program} {w0 X L ok φ w id b sz d c l us vs rest e lo hi} (h : HeapOK w ok L φ) (hL : L id = some (.cells sz false d c)) (hb : φ id = some b)
    (hold : w.heap[b]? = some (.cells (vs ++ rest).toArray e (lo, hi))) (hfz : BF d e (vs ++ rest).length lo hi) (hnf : notFz d = true) (hre : RE w ok L φ sz c vs) (hrl : RE w ok L φ sz l us) (off : Nat) (hle : off + l.length ≤ c.length) :
    ∃ w', (storeCells ⟨b, off * sz, none⟩ us).run P w = .ok () w' ∧ Ext w0 X L ok φ w (updL L id (.cells sz false d (c.take off ++ (l ++ c.drop (off + l.length))))) ok φ w' := by
  have hul := hrl.1
  have hvl := hre.1
  have hmul : off * sz + l.length * sz ≤ c.length * sz := by rw [← Nat.add_mul]; exact Nat.mul_le_mul_right _ hle
  obtain ⟨w', h5, h6, h7⟩ := run_storeCells_blk (P := P) b (off * sz) e lo hi us 0 (vs ++ rest) w hold (hfz.1 hnf) (by simp only [List.length_append]; omega) hrl.ones
  simp only [Nat.add_zero] at h7
  have e1 : (vs ++ rest).take (off * sz) ++ (us ++ (vs ++ rest).drop (off * sz + us.length)) = (vs.take (off * sz) ++ (us ++ vs.drop (off * sz + us.length))) ++ rest := by
    rw [List.take_append_of_le_length (by omega), List.drop_append_of_le_length (by omega)]
    simp [List.append_assoc]
  rw [e1] at h7
  have hlen : (vs.take (off * sz) ++ (us ++ vs.drop (off * sz + us.length))).length = vs.length := by
    simp only [List.length_append, List.length_take, List.length_drop]; omega
  have r1 := hre.sub 0 off
  have r3 := hre.sub (off + l.length) (c.length - (off + l.length))
  simp only [List.drop_zero, Nat.zero_mul] at r1
  have e3 : (c.drop (off + l.length)).take (c.length - (off + l.length)) = c.drop (off + l.length) := List.take_of_length_le (by simp)
  have e4 : (vs.drop ((off + l.length) * sz)).take ((c.length - (off + l.length)) * sz) = vs.drop (off * sz + us.length) := by
    rw [hul, Nat.add_mul]
    refine List.take_of_length_le ?_
    rw [List.length_drop, hvl, Nat.sub_mul, Nat.add_mul]
    exact Nat.le_refl _
  rw [e3, e4] at r3
  have hnew := r1.append (hrl.append r3)
  refine ⟨w', h5, Ext.wrote h hb h6 (.inl ⟨sz, d, c, d, _, _, rest, e, lo, hi, hL, rfl, ?_, h7, ⟨fun _ k hk => hfz.1 hnf k ?_, hfz.2⟩, hnew, fun n hc => ?_⟩)⟩
  · simp only [List.length_append, List.length_take, List.length_drop]; omega
  · simp only [List.length_append] at hk hlen ⊢; omega
  · obtain ⟨cur, e', fz, g1, g2⟩ := hc
    rw [hold] at g1; cases g1
    refine ⟨_, _, _, h7, ?_⟩
    simp only [List.size_toArray, List.length_append] at g2 hlen ⊢; omega
theorem updL_same {L : Nat → Option Blk} {id : Nat} {b : Blk} (h : L id = some b) : updL L id b = L := by
  funext i; simp only [updL]; split
  · rename_i e; subst e; exact h.symm
  · rfl
theorem ref_live {w ok L φ id off len hw v sz ro d c} (hh : HeapOK w ok L φ) (hx : R w ok L φ (.ref id off len hw) v) (hL : L id = some (.cells sz ro d c)) (hw1 : hw = c.length) :
    off + len ≤ c.length ∧ ∃ a cap, v = .slice a len cap ∧ (len = 0 ∨ ∃ b vs rest e lo hi, a = some ⟨b, off * sz, none⟩ ∧ φ id = some b ∧ w.heap[b]? = some (.cells (vs ++ rest).toArray e (lo, hi)) ∧
      BF d e (vs ++ rest).length lo hi ∧ RE w ok L φ sz c vs) := by
  obtain ⟨sz1, ro1, d1, c1, hL1, hle, ⟨a, n, m, rfl⟩, hr⟩ := hx.refInv
  rw [hL] at hL1; cases hL1
  obtain ⟨g1, g2⟩ := hr hw1
  refine ⟨by omega, ?_⟩
  rcases g2 with ⟨g2, a1, g3⟩ | ⟨b, cap, pa, g2, g3, g4, g5, g6⟩
  · cases g3
    obtain rfl : len = 0 := by omega
    exact ⟨a, 0, rfl, .inl rfl⟩
  · cases g3
    refine ⟨_, _, rfl, ?_⟩
    rcases g6 with g6 | ⟨rfl, _⟩
    · exact .inl (by omega)
    · rcases hh.live g2 with ⟨sz1, ro1, d1, c1, vs, rest, e, lo, hi, h1, h2, h3, h4⟩ | ⟨blk, o, h1, _, ho⟩
      · rw [hL] at h1; cases h1
        exact .inr ⟨b, vs, rest, e, lo, hi, rfl, g2, h2, h3, h4⟩
      · rw [hL] at h1; cases h1; cases ho
def efCopy (P : Program) (L : Nat → Option Blk) (dT : TypeId) (s x : AV) : Option (AV × Nat × Blk × Prop) :=
  match P.underlying dT with
  | some (.slice el) => match s with
    | .ref i off len hw => match L i with
      | some (.cells sz false d c) => match srcA L sz x with
        | some (l, q) => some (.int .i64 (min l.length len : Nat), i, .cells sz false d (c.take off ++ (l.take (min l.length len) ++ c.drop (off + min l.length len))), q ∧ szT P el = some sz ∧ hw = c.length ∧ notFz d = true)
        | none => none
      | _ => none
    | _ => none
  | _ => none
theorem efCopy_ok {P L dT sT s x ty v' id' blk p w0 X ok φ w vs vx} (h : efCopy P L dT s x = some (v', id', blk, p)) (hp : p) (hh : HeapOK w ok L φ)
    (hs : R w ok L φ s vs) (hx : R w ok L φ x vx) : EffOK P w0 X (Builtin.copy_ #[dT, sT] ty #[vs, vx]) L ok φ w v' id' blk := by
  unfold efCopy at h
  split at h
  · rename_i el hu
    split at h
    · rename_i i off len hw
      split at h
      · rename_i sz d c hL
        split at h <;> simp only [Option.some.injEq, reduceCtorEq, Prod.mk.injEq] at h
        rename_i l q hsrc
        obtain ⟨rfl, rfl, rfl, rfl⟩ := h
        obtain ⟨hq, hsz, hw1, hnf⟩ := hp
        obtain ⟨g1, a, cap, rfl, g2⟩ := ref_live hh hs hL hw1
        obtain ⟨ns, hre, hrun⟩ := src_ok (P := P) hsrc hq hh hx
        obtain ⟨r1, r2⟩ := hrun w rfl
        have hmin : Nat.min l.length len = min l.length len := rfl
        by_cases h0 : min l.length len = 0
        · refine ⟨.int .i64 0, w, φ, ?_, ?_, by rw [h0]; exact .pure _ _ (.int _ _)⟩
          · have e0 := r2 0 (Nat.zero_le _)
            simp only [Nat.zero_mul, List.take_zero] at e0
            cases a <;> simp [Builtin.copy_, run_underlying hu, r1, hmin, h0, run_sizeOf' hsz, e0, storeCells, goInt]
          · rw [h0]
            have e1 : c.take off ++ (l.take 0 ++ c.drop (off + 0)) = c := by simp
            rw [e1, updL_same hL]
            exact Ext.refl hh
        · rcases g2 with g2 | ⟨b, bs, rest, e, lo, hi, rfl, k1, k2, k3, k4⟩
          · subst g2; simp at h0
          · have hsub := hre.sub 0 (min l.length len)
            simp only [List.drop_zero, Nat.zero_mul] at hsub
            have hlm : (l.take (min l.length len)).length = min l.length len := by simp only [List.length_take]; omega
            obtain ⟨w', h5, hx'⟩ := Ext.splice (P := P) (w0 := w0) (X := X) hh hL k1 k2 k3 hnf k4 hsub off (by rw [hlm]; omega)
            rw [hlm] at hx'
            refine ⟨_, w', φ, ?_, hx', .pure _ _ (.int _ _)⟩
            simp [Builtin.copy_, run_underlying hu, r1, hmin, run_sizeOf' hsz, r2 _ (Nat.min_le_left _ _), h5, goInt]
      · simp at h
    · simp at h
  · simp at h
def efClear (P : Program) (L : Nat → Option Blk) (t : TypeId) (x : AV) : Option (AV × Nat × Blk × Prop) :=
  match P.underlying t with
  | some (.slice el) => match x with
    | .ref i off len hw => match L i, zT P el with
      | some (.cells sz false d c), some z => some (.any, i, .cells sz false d (c.take off ++ (List.replicate len z ++ c.drop (off + len))), hw = c.length ∧ z.cells.all AV.flat = true ∧ z.cells.length = sz ∧ notFz d = true)
      | _, _ => none
    | _ => none
  | _ => none
theorem efClear_ok {P L t x ty v' id' blk p w0 X ok φ w vx} (h : efClear P L t x = some (v', id', blk, p)) (hp : p) (hh : HeapOK w ok L φ) (hx : R w ok L φ x vx) :
    EffOK P w0 X (Builtin.clear_ #[t] ty #[vx]) L ok φ w v' id' blk := by
  unfold efClear at h
  split at h
  · rename_i el hu
    split at h
    · rename_i i off len hw
      split at h <;> simp only [Option.some.injEq, reduceCtorEq, Prod.mk.injEq] at h
      rename_i sz d c z hL hz
      obtain ⟨rfl, rfl, rfl, rfl⟩ := h
      obtain ⟨hw1, hf, hzl, hnf⟩ := hp
      obtain ⟨g1, a, cap, rfl, g2⟩ := ref_live hh hx hL hw1
      obtain ⟨inf, u, hi, hzu, _, _, hrc⟩ := zero_ok w ok L φ hz hf
      rcases g2 with g2 | ⟨b, bs, rest, e, lo, hi', rfl, k1, k2, k3, k4⟩
      · subst g2
        refine ⟨.tuple #[], w, φ, ?_, ?_, .pure _ _ (.any _)⟩
        · cases a <;> simp [Builtin.clear_, run_underlying hu]
        · have e1 : c.take off ++ (List.replicate 0 z ++ c.drop (off + 0)) = c := by simp
          rw [e1, updL_same hL]
          exact Ext.refl hh
      · have hre := RE.replicate (k := len) hzl hrc
        obtain ⟨w', h5, hx'⟩ := Ext.splice (P := P) (w0 := w0) (X := X) hh hL k1 k2 k3 hnf k4 hre off (by simp; omega)
        simp only [List.length_replicate] at hx'
        refine ⟨.tuple #[], w', φ, ?_, hx', .pure _ _ (.any _)⟩
        cases len with
        | zero =>
          have e0 : (Builtin.zeroCells u.cells 0).toList = [] := by simp [Builtin.zeroCells]
          rw [e0] at h5
          simp only [storeCells, Sem.run_pure] at h5
          cases h5
          simp [Builtin.clear_, run_underlying hu]
        | succ k => simp [Builtin.clear_, run_underlying hu, run_zero hi hzu, h5]
    · simp at h
  · simp at h
end Go.Abs
end
section
set_option linter.unusedVariables false
set_option linter.unusedSimpArgs false
namespace Go.Abs
def dTy : AV → Option TypeId
  | .iface t _ => some t
  | _ => none
def unsP (P : Program) (s d T : TypeId) : Prop :=
  match P.underlying s, P.underlying d with
  | some (.pointer t), some .unsafePointer => t = T
  | some .unsafePointer, some (.pointer t) => t = T
  | _, _ => False
def rdUns (P : Program) (L : Nat → Option Blk) (s d : TypeId) (id i j hw : Nat) : Option (AV × Prop) :=
  match L id with
  | some (.cells sz ro m c) => match dTy m with
    | some T => some (.ptr id i j hw, hw = c.length ∧ i = 0 ∧ j = 0 ∧ 0 < c.length ∧ 0 < sz ∧ unsP P s d T ∧ szT P T = some sz)
    | none => none
  | _ => none
def rdCv (P : Program) (L : Nat → Option Blk) (s d : TypeId) : AV → Option (AV × Prop)
  | .ptr id i j hw => rdUns P L s d id i j hw
  | x => rdText P L s d x
theorem cellsOf_szT {P : Program} {t : TypeId} {n : Nat} (h : szT P t = some n) : ∃ j, P.info? t = some j ∧ j.size = n ∧ P.cellsOf t = n := by
  simp only [szT, Option.map_eq_some_iff] at h
  obtain ⟨j, h1, h2⟩ := h
  exact ⟨j, h1, h2, by simp [Program.cellsOf, h1, h2]⟩
theorem liesAt_row {P : Program} {e : TypeId} (hc : P.cellsOf e ≠ 0) (count n : Nat) (hn : n ≤ count) : liesAt P P.depth e count 0 e n = true := by
  have hd : P.depth = (2 * (P.types.size + Made.depth) + 1) + 1 := rfl
  rw [hd]
  simp only [liesAt, Bool.or_eq_true]
  left
  rw [hd]
  simp [rowAt, hc, hn, sameLayout]
theorem rdCv_ok {P L src dst x v' p w ok φ vx} (h : rdCv P L src dst x = some (v', p)) (hp : p) (hh : HeapOK w ok L φ) (hx : R w ok L φ x vx) :
    ∃ v, (convert src dst vx).run P w = .ok v w ∧ R w ok L φ v' v := by
  unfold rdCv at h
  split at h
  · rename_i id i j hw
    unfold rdUns at h
    split at h
    · rename_i sz ro m c hL
      split at h <;> simp only [Option.some.injEq, reduceCtorEq, Prod.mk.injEq] at h
      rename_i T hT
      obtain ⟨rfl, rfl⟩ := h
      obtain ⟨hw1, rfl, rfl, hc0, hs0, hu, hsz⟩ := hp
      obtain ⟨pa, sz', ro', d', c', rfl, hL', hle, hr⟩ := hx.ptrInv
      rw [hL] at hL'; cases hL'
      obtain ⟨b, hb, rfl⟩ := hr hw1
      refine ⟨_, ?_, hx⟩
      rcases hh.live hb with ⟨sz1, ro1, d1, c1, vs, rest, e, lo', hi', h1, h2, h3, h4⟩ | ⟨blk1, o1, h1, _, ho1⟩
      · rw [hL] at h1; cases h1
        obtain ⟨jn, j1, j2, j3⟩ := cellsOf_szT hsz
        have he : e = T := by
          unfold dTy at hT
          split at hT <;> simp only [Option.some.injEq, reduceCtorEq] at hT
          subst hT
          exact h3.2
        subst he
        have hvl := h4.1
        have hmul : sz ≤ c.length * sz := Nat.le_mul_of_pos_left _ hc0
        have hsh : w.shape? b = some (e, (vs ++ rest).toArray.size) := by simp [World.shape?, h2]
        have hcl : sz ≤ (vs ++ rest).toArray.size := by simp only [List.size_toArray, List.length_append]; omega
        simp only [Nat.zero_mul, Nat.add_zero]
        unfold unsP at hu
        split at hu
        · rename_i t hs hd
          subst hu
          exact Go.Lib.run_to_unsafe (w := w) ⟨b, 0, none⟩ hs hd j1 (by omega) hsh (by show 0 < _; omega)
        · rename_i t hs hd
          subst hu
          refine Go.Lib.run_from_unsafe (w := w) ⟨b, 0, none⟩ hs hd j1 hsh (liesAt_row (by omega) _ 1 ?_)
          rw [j3]
          exact (Nat.le_div_iff_mul_le hs0).2 (by omega)
        · exact hu.elim
      · rw [hL] at h1; cases h1; cases ho1
    · simp at h
  · exact rdText_ok h hp hh hx
def rdPeq1 (P : Program) (L : Nat → Option Blk) (t : TypeId) (a i j h b i' j' h' : Nat) (r : Bool) : Option (AV × Prop) :=
  match P.underlying t with
  | some (.pointer e) => match L a with
    | some (.cells sz ro d c) => some (.bool r, a = b ∧ i = i' ∧ j = j' ∧ h = h' ∧ h = c.length ∧ (szT P e).isSome = true)
    | _ => none
  | _ => none
def rdPeq2 (P : Program) (L : Nat → Option Blk) (t : TypeId) : AV → AV → Bool → Option (AV × Prop)
  | .ptr a i j h, .ptr b i' j' h', r => rdPeq1 P L t a i j h b i' j' h' r
  | _, _, _ => none
def rdPeq (P : Program) (L : Nat → Option Blk) (op : BinOp) (t : TypeId) (x y : AV) : Option (AV × Prop) :=
  match op with
  | .eql => rdPeq2 P L t x y true
  | .neq => rdPeq2 P L t x y false
  | _ => none
theorem run_eql_ptr {P : Program} {w : World} {tp te : TypeId} {j : TypeInfo} (a : Addr) (hp : P.underlying tp = some (.pointer te)) (hte : P.info? te = some j) :
    (binOp .eql tp (.pointer (some a)) (.pointer (some a))).run P w = .ok (.bool true) w := by
  have h : ∀ d : Nat, (Op.equalIn (d + 1) tp (.pointer (some a)) (.pointer (some a))).run P w = .ok true w := fun d => by
    simp [Op.equalIn, run_underlying hp, sizeOf, typeInfo, hte, run_sameAddr_same]
  simp only [binOp]
  simp [Op.equal, Op.maxDepth, h 9999]
theorem rdPeq_ok {P : Program} {L op t x y v' p w ok φ vx vy} {ox oy : Operand} (h : rdPeq P L op t x y = some (v', p)) (hp : p) (hx : R w ok L φ x vx) (hy : R w ok L φ y vy) :
    ∃ v, ((do eqGuard op t ox oy vx vy; binOp op t vx vy) : Sem Value).run P w = .ok v w ∧ R w ok L φ v' v := by
  have key : ∀ r, rdPeq2 P L t x y r = some (v', p) → v' = .bool r ∧ ∃ a e j, vx = .pointer (some a) ∧ vy = .pointer (some a) ∧ P.underlying t = some (.pointer e) ∧ P.info? e = some j := by
    intro r h
    unfold rdPeq2 at h
    split at h
    · rename_i a i j hw b i' j' hw'
      unfold rdPeq1 at h
      split at h
      · rename_i e hu
        split at h <;> simp only [Option.some.injEq, reduceCtorEq, Prod.mk.injEq] at h
        rename_i sz ro d c hL
        obtain ⟨rfl, rfl⟩ := h
        obtain ⟨rfl, rfl, rfl, rfl, hc, hz⟩ := hp
        obtain ⟨pa, sz1, ro1, d1, c1, rfl, hL1, _, h1⟩ := hx.ptrInv
        obtain ⟨pb, sz2, ro2, d2, c2, rfl, hL2, _, h2⟩ := hy.ptrInv
        rw [hL] at hL1 hL2; cases hL1; cases hL2
        obtain ⟨k1, g1, rfl⟩ := h1 hc
        obtain ⟨k2, g2, rfl⟩ := h2 hc
        rw [g1] at g2; cases g2
        obtain ⟨n, hn⟩ := Option.isSome_iff_exists.1 hz
        obtain ⟨jn, j1, _⟩ := cellsOf_szT hn
        exact ⟨rfl, _, e, jn, rfl, rfl, hu, j1⟩
      · cases h
    · cases h
  unfold rdPeq at h
  split at h
  · obtain ⟨rfl, a, e, j, rfl, rfl, hu, hj⟩ := key _ h
    exact ⟨_, by simp [eqGuard, run_eql_ptr a hu hj], .pure _ _ (.bool _)⟩
  · obtain ⟨rfl, a, e, j, rfl, rfl, hu, hj⟩ := key _ h
    exact ⟨_, by simp [eqGuard, Go.Lib.run_neq_ptr_same w a hu hj], .pure _ _ (.bool _)⟩
  · cases h
def isPtrT (P : Program) (t : TypeId) : Bool := match P.underlying t with | some (.pointer _) => true | _ => false
theorem rdPeq_none {P : Program} {L op t x y} (h : isPtrT P t = false) : rdPeq P L op t x y = none := by
  unfold isPtrT at h
  split at h
  · cases h
  · rename_i hu
    have key : ∀ r, rdPeq2 P L t x y r = none := fun r => by
      unfold rdPeq2
      split
      · unfold rdPeq1
        split
        · rename_i e he; exact absurd he (hu e)
        · rfl
      · rfl
    unfold rdPeq
    split
    · exact key _
    · exact key _
    · rfl
def rdUSD (L : Nat → Option Blk) : AV → Option (AV × Prop)
  | .ref id off len hw => match L id with
    | some (.cells sz ro m c) => some (.ptr id off 0 hw, hw = c.length ∧ 0 < len)
    | _ => none
  | _ => none
theorem rdUSD_ok {P : Program} {L x v' p w ok φ vx} {ts : Array TypeId} {ty : TypeId} (h : rdUSD L x = some (v', p)) (hp : p) (hx : R w ok L φ x vx) :
    ∃ v, (Builtin.unsafeSliceData_ ts ty #[vx]).run P w = .ok v w ∧ R w ok L φ v' v := by
  unfold rdUSD at h
  split at h
  · rename_i id off len hw
    split at h <;> simp only [Option.some.injEq, reduceCtorEq, Prod.mk.injEq] at h
    rename_i sz ro m c hL
    obtain ⟨rfl, rfl⟩ := h
    obtain ⟨hw1, hl0⟩ := hp
    obtain ⟨sz1, ro1, d1, c1, hL1, hle, ⟨a, n, cap, rfl⟩, hr⟩ := hx.refInv
    rw [hL] at hL1; cases hL1
    obtain ⟨g1, g2⟩ := hr hw1
    rcases g2 with ⟨g2, _⟩ | ⟨b, cap', pa, g2, g3, g4, g5, g6⟩
    · omega
    · cases g3
      rcases g6 with g6 | ⟨rfl, g7⟩
      · omega
      · exact ⟨_, Go.Lib.run_unsafeSliceData_row w ts ty _ _ _ (by omega), .ptr id off 0 hw _ sz ro m c hL (by omega) (fun _ => ⟨b, g2, rfl⟩)⟩
  · simp at h
def efUStr (P : Program) (L : Nat → Option Blk) (pt : TypeId) : AV → AV → Option (AV × Nat × Blk × Prop)
  | .ptr id i j hw, .int k n => match L id with
    | some (.cells sz false m c) => match dTy m with
      | some T => some (.str (c.map toByte), id, .cells sz false (.nxt false 0 0) c,
          hw = c.length ∧ i = 0 ∧ j = 0 ∧ k = .i64 ∧ n = c.length ∧ 0 < c.length ∧ c.length ≤ maxInt ∧ P.underlying pt = some (.pointer T) ∧ szT P T = some 1 ∧ sz = 1 ∧ (c.map toByte).map byteAV = c)
      | none => none
    | _ => none
  | _, _ => none
theorem freeze_heap {w : World} {b n : Nat} {cs : Array Value} {e : TypeId} {fz : Nat × Nat} (h : w.heap[b]? = some (.cells cs e fz)) (hn : n ≠ 0) :
    ∃ lo hi, (w.freeze ⟨b, 0, none⟩ n).heap[b]? = some (.cells cs e (lo, hi)) := by
  have hb := (Array.getElem?_eq_some_iff.1 h).1
  obtain ⟨lo, hi⟩ := fz
  refine ⟨(if lo == hi then (0, 0 + n) else (min lo 0, max hi (0 + n))).1, (if lo == hi then (0, 0 + n) else (min lo 0, max hi (0 + n))).2, ?_⟩
  rw [World.freeze, if_neg hn]
  simp only [Array.getElem?_modify, if_true, h, Option.map_some]
theorem freeze_wr {w : World} {b n : Nat} (hn : n ≠ 0) : Wr b w (w.freeze ⟨b, 0, none⟩ n) := by
  unfold World.freeze
  rw [if_neg hn]
  exact ⟨rfl, rfl, rfl, by simp, fun k hk => by simp only [Array.getElem?_modify]; rw [if_neg (fun e => hk e.symm)]⟩
theorem efUStr_ok {P L pt it x n ty v' id' blk p w0 X ok φ w vx vn} (h : efUStr P L pt x n = some (v', id', blk, p)) (hp : p) (hh : HeapOK w ok L φ)
    (hx : R w ok L φ x vx) (hn : R w ok L φ n vn) : EffOK P w0 X (Builtin.unsafeString_ #[pt, it] ty #[vx, vn]) L ok φ w v' id' blk := by
  unfold efUStr at h
  split at h
  · rename_i id i j hw k m
    split at h
    · rename_i sz d c hL
      split at h <;> simp only [Option.some.injEq, reduceCtorEq, Prod.mk.injEq] at h
      rename_i T hT
      obtain ⟨rfl, rfl, rfl, rfl⟩ := h
      obtain ⟨hw1, rfl, rfl, rfl, rfl, hc0, hcm, hpt, hsz, rfl, hall⟩ := hp
      obtain rfl : vn = .int .i64 c.length := by cases hn with | pure _ _ h => cases h; rfl
      obtain ⟨pa, sz', ro', d', c', rfl, hL', hle, hr⟩ := hx.ptrInv
      rw [hL] at hL'; cases hL'
      obtain ⟨b, hb, rfl⟩ := hr hw1
      rcases hh.live hb with ⟨sz1, ro1, d1, c1, vs, rest, e, lo', hi', h1, h2, h3, h4⟩ | ⟨blk1, o1, h1, _, ho1⟩
      · rw [hL] at h1; cases h1
        obtain ⟨jn, j1, j2, j3⟩ := cellsOf_szT hsz
        have he : e = T := by
          unfold dTy at hT
          split at hT <;> simp only [Option.some.injEq, reduceCtorEq] at hT
          subst hT
          exact h3.2
        subst he
        have hvl := h4.1
        have hl : (c.map toByte).length = c.length := by simp
        have hsh : w.shape? b = some (e, (vs ++ rest).toArray.size) := by simp [World.shape?, h2]
        have hbyte : ∀ (q : Nat) (y : AV), c[q]? = some y → y = byteAV (toByte y) := fun q y hy => by
          have e1 : ((c.map toByte).map byteAV)[q]? = some y := by rw [hall]; exact hy
          simp only [List.getElem?_map, hy, Option.map_some, Option.some.injEq] at e1
          exact e1.symm
        have hcell : ∀ (q : Nat) (y : UInt8), (c.map toByte)[q]? = some y → w.cell? ((⟨b, 0, none⟩ : Addr).add q) = some (.int .u8 y.toNat) := fun q y hy => by
          simp only [List.getElem?_map, Option.map_eq_some_iff] at hy
          obtain ⟨a, ha, rfl⟩ := hy
          have k1 := hbyte q a ha
          have kc : a.cells = [a] := by rw [k1]; rfl
          obtain ⟨v, g1, g2, g3⟩ := h4.2.2 q _ 0 _ ha (by rw [kc]; rfl)
          have g4 : v = .int .u8 (toByte a).toNat := by
            rw [k1] at g3
            cases g3 with | pure _ _ h => cases h; rfl
          subst g4
          have hq : q < vs.length := by simpa using (List.getElem?_eq_some_iff.1 g1).1
          rw [addr_add_plain, cell_blk h2]
          simp only [Nat.zero_add, Nat.mul_one, Nat.add_zero] at g1 ⊢
          simp [List.getElem?_append_left hq, g1]
        have hrun := Go.Lib.run_unsafeString_row (P := P) w pt it ty e hpt j3 b _ hsh (c.map toByte) (by intro e0; have := congrArg List.length e0; simp at this; subst this; simp at hc0) (by rw [hl]; simp only [List.size_toArray, List.length_append]; omega)
          (by rw [hl]; simp only [maxInt] at hcm; omega) hcell
        rw [hl] at hrun
        simp only [Nat.zero_mul, Nat.add_zero]
        obtain ⟨lo2, hi2, hz⟩ := freeze_heap (n := c.length) h2 (by omega)
        refine ⟨.string ⟨(c.map toByte).toArray⟩, w.freeze ⟨b, 0, none⟩ c.length, φ, hrun, ?_, .pure _ _ (.str _)⟩
        exact Ext.wrote hh hb (freeze_wr (by omega)) (.inl ⟨1, d, c, .nxt false 0 0, c, vs, rest, e, lo2, hi2, hL, rfl, rfl, hz, ⟨(fun hf => by cases hf), trivial⟩, h4, fun q hq => by
          obtain ⟨cur, e', fz, q1, q2⟩ := hq
          rw [h2] at q1; cases q1
          exact ⟨_, _, _, hz, q2⟩⟩)
      · rw [hL] at h1; cases h1; cases ho1
    · simp at h
  · simp at h
end Go.Abs
end
