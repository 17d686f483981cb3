/- The step of the evaluator, and that it is right. No condition. -/
import Derived.Test.YtlkfjkimnkhelaaDoorAbsK
set_option linter.unusedVariables false
set_option linter.unusedSimpArgs false
namespace Go.Abs

abbrev Tbl := FuncId → List Blk → List AV → Option (List Blk × AV × Prop)

/-- Every answer of the table is a contract that holds. -/
def TblOK (P : Program) (C : Tbl) : Prop := ∀ f E args E' res p, C f E args = some (E', res, p) → p → SpecE P f E args E' res

/-! ### what the evaluator makes of an operation -/
def opnds : Op → List Operand
  | .move x | .assign x | .box _ x | .load _ x | .nilCheck x | .unOp _ _ x | .convert _ _ x | .fieldAddr _ x _ | .field _ x _ | .range _ x | .next x _ | .extract x _ => [x]
  | .store _ x y | .binOp _ _ x y _ | .makeSlice _ x y | .indexAddr _ x y | .index _ x y => [x, y]
  | .build _ ps | .buildSlice _ _ ps => ps.toList.map (·.2)
  | .slice _ x lo hi mx => [x] ++ lo.toList ++ hi.toList ++ mx.toList
  | .makeFunc _ fs cs => fs.toList ++ cs.toList
  | .call c => (match c.callee with | .value f => [f] | _ => []) ++ c.args.toList
  | _ => []

def ucL (ρ : Operand → AV) : List Operand → Prop
  | [] => True
  | x :: r => (ρ x).uc ∧ ucL ρ r

theorem ucL_mem {ρ : Operand → AV} {l : List Operand} (h : ucL ρ l) : ∀ x ∈ l, (ρ x).uc := by
  induction l with
  | nil => intro x hx; simp at hx
  | cons a l ih =>
    intro x hx
    rcases List.mem_cons.1 hx with rfl | hx
    · exact h.1
    · exact ih h.2 x hx

def unO (ρ : Operand → AV) : Option Operand → Option AV
  | none => none
  | some x => some (ρ x).un

def evPick (c a b : AV) : Option (AV × Prop) :=
  match c.un with
  | .bool t => match a.un, b.un with
    | .bool x, .bool y => some (.bool (bif t then x else y), c.uc ∧ gimp t a.uc ∧ gimp (!t) b.uc)
    | .bool x, _ => some (.bool x, c.uc ∧ isT t ∧ a.uc)
    | _, .bool y => some (.bool y, c.uc ∧ isT (!t) ∧ b.uc)
    | _, _ => none
  | _ => none

def evNilCheck (x : AV) : Option (AV × Prop) :=
  match x with
  | .radr cs => some (.radr cs, True)
  | .ptr id i j hw => some (.ptr id i j hw, True)
  | .it id => some (.it id, True)
  | .yld id => some (.yld id, True)
  | .clo f k cs => some (.clo f k cs, True)
  | _ => none

def evBuiltin (P : Program) (b : Builtin) (ts : List TypeId) (xs : List AV) : Option (AV × Prop) :=
  match b with
  | .len => match ts, xs with
    | [t], [x] => evLen P t x
    | _, _ => none
  | .max => match xs with
    | [x, y] => evMax x y
    | _ => none
  | .min => match xs with
    | [x, y] => evMin x y
    | _ => none
  | _ => none

def evPure (P : Program) (wr : Bool) (ρ : Operand → AV) : Op → Option (AV × Prop)
  | .move x => some ((ρ x).un, True)
  | .assign x => some ((ρ x).un, True)
  | .pick c a b => evPick (ρ c) (ρ a) (ρ b)
  | .binOp op t x y _ => evBinX P wr op t (ρ x).un (ρ y).un
  | .unOp op _ x => evUn wr op (ρ x).un
  | .convert s d x => evConv P wr s d (ρ x).un
  | .index t x i => evIndex P t (ρ x).un (ρ i).un
  | .field t x f => evField P t (ρ x).un f
  | .fieldAddr t x f => evFieldAddr P t (ρ x).un f
  | .indexAddr t x i => evIndexAddr P t (ρ x).un (ρ i).un
  | .slice t x lo hi mx => evSlice P t (ρ x).un (unO ρ lo) (unO ρ hi) (unO ρ mx)
  | .extract x i => evExtract (ρ x).un i
  | .build t ps => evBuild P t (ps.toList.map fun p => (p.1, (ρ p.2).un))
  | .makeFunc (.func f) fst cs => some (.clo f fst.size ((fst.toList ++ cs.toList).map fun x => (ρ x).un), True)
  | .nilCheck x => evNilCheck (ρ x).un
  | .call { callee := .builtin b, args, argTypes } => evBuiltin P b argTypes.toList (args.toList.map fun x => (ρ x).un)
  | _ => none

def evRead (P : Program) (L : Nat → Option Blk) (ρ : Operand → AV) : Op → Option (AV × Prop)
  | .load t x => rdLoad P L t (ρ x).un
  | .indexAddr t x i => rdIndexAddr P L t (ρ x).un (ρ i).un
  | .slice t x lo hi mx => rdSlice P L t (ρ x).un (unO ρ lo) (unO ρ hi) (unO ρ mx)
  | .convert s d x => rdText P L s d (ρ x).un
  | .call { callee := .builtin .len, args, argTypes } => match argTypes.toList, args.toList with
    | [t], [x] => rdLen P L t (ρ x).un
    | _, _ => none
  | _ => none

def idOf (dst : Option Nat) : Nat := match dst with | some t => 16 * (t + 1) | none => 0

def evEff (P : Program) (L : Nat → Option Blk) (id : Nat) (ρ : Operand → AV) : Op → Option (AV × Nat × Blk × Prop)
  | .alloc t => match zT P t with
    | some z => match efBoxed P L id t z with
      | some (v, i, b, p) => some (v, i, b, p ∧ z.cells.all AV.flat = true)
      | none => none
    | none => none
  | .box t x => efBoxed P L id t (ρ x).un
  | .buildSlice t n ps => efBuildSlice P L id t n (ps.toList.map fun p => (p.1, (ρ p.2).un))
  | .makeSlice t l c => efMake P L id t (ρ l).un (ρ c).un
  | .store t x y => efStore P L t (ρ x).un (ρ y).un
  | .convert s d x => efBytes P L id s d (ρ x).un
  | .range t x => efRange P L id t (ρ x).un
  | .next x true => efNext L (ρ x).un
  | .call { callee := .builtin .append, args, argTypes } => match argTypes.toList, args.toList with
    | [t, u], [x, y] => efAppend P L id t u (ρ x).un (ρ y).un
    | _, _ => none
  | .call { callee := .builtin .copy, args, argTypes } => match argTypes.toList, args.toList with
    | [t, u], [x, y] => efCopy P L t (ρ x).un (ρ y).un
    | _, _ => none
  | .call { callee := .builtin .clear, args, argTypes } => match argTypes.toList, args.toList with
    | [t], [x] => efClear P L t (ρ x).un
    | _, _ => none
  | _ => none

def scal : AV → Bool
  | .any | .bool _ | .int .. | .str _ | .nils | .nilp | .nili | .nilf | .nxt .. => true
  | .agg cs => cs.all fun | .any | .bool _ | .int .. | .str _ | .nils | .nilp | .nili | .nilf => true | _ => false
  | .tuple cs => cs.all fun
    | .any | .bool _ | .int .. | .str _ | .nils | .nilp | .nili | .nilf => true
    | .agg cs => cs.all fun | .any | .bool _ | .int .. | .str _ | .nils | .nilp | .nili | .nilf => true | _ => false
    | _ => false
  | _ => false

def deadId : Nat := 999999

def freshIds (L : Nat → Option Blk) (nb : Nat) : List Blk → Nat → Prop
  | [], _ => L deadId = none
  | _ :: r, i => L (nb + i) = none ∧ freshIds L nb r (i + 1)

def sig (nb k i : Nat) : Nat := if i < k then nb + i else deadId

def newBlks (σ : Nat → Nat) : List Blk → Nat → List (Nat × Blk)
  | [], _ => []
  | b :: r, i => (σ i, renB σ b) :: newBlks σ r (i + 1)

def marks (L : Nat → Option Blk) : List Nat → List (Nat × Blk)
  | [] => []
  | i :: r => match L i with
    | some b => (i, roB b) :: marks L r
    | none => marks L r

/-- A thing that the simplifier does not look into: it stands as an instance. -/
class Hold.{u} (α : Type u) where
  v : α

/-- A call of a function that is handed no block. -/
abbrev CallR := Option (AV × List (Nat × Blk) × Prop)
def call1c (L : Nat → Option Blk) (id : Nat) (V : List Nat) (q p : Prop) (res : AV) : Bool → CallR
  | true => some (res, [], q ∧ p)
  | false => some (ren (sig id 0) res, marks L V, q ∧ p ∧ freshIds L id [] 0)
def call1b (L : Nat → Option Blk) (id : Nat) (V : List Nat) (q : Prop) : Option (List Blk × AV × Prop) → CallR
  | some ([], res, p) => call1c L id V q p res (scal res)
  | some (b :: E', res, p) => some (ren (sig id (b :: E').length) res, newBlks (sig id (b :: E').length) (b :: E') 0 ++ marks L V, q ∧ p ∧ freshIds L id (b :: E') 0)
  | none => none
def call1a (C : Tbl) (L : Nat → Option Blk) (id : Nat) (f : FuncId) : Option (List AV × List Nat × Prop) → CallR
  | some (ys, V, q) => call1b L id V q (C f [] ys)
  | none => none
def evCall1 (C : Tbl) (L : Nat → Option Blk) (id : Nat) (f : FuncId) (xs : List AV) : CallR := call1a C L id f (purL L xs)

/-! a call of a function that is handed blocks -/
mutual
def pids : AV → List Nat
  | .ptr id _ _ _ => [id]
  | .it id => [id]
  | .yld id => [id]
  | .ref id _ _ _ => [id]
  | .agg cs => pidsL cs
  | .tuple cs => pidsL cs
  | .clo _ _ cs => pidsL cs
  | .cond _ v => pids v
  | _ => []
def pidsL : List AV → List Nat
  | [] => []
  | a :: r => pids a ++ pidsL r
end
mutual
def mids : AV → List Nat
  | .ptr id _ _ _ => [id]
  | .it id => [id]
  | .yld id => [id]
  | .agg cs => midsL cs
  | .tuple cs => midsL cs
  | .clo _ _ cs => midsL cs
  | .cond _ v => mids v
  | _ => []
def midsL : List AV → List Nat
  | [] => []
  | a :: r => mids a ++ midsL r
end
def hasId (l : List Nat) (i : Nat) : Bool := match l with | [] => false | j :: r => if i = j then true else hasId r i
def allIds (l : List Nat) : List Nat → Bool | [] => true | i :: r => if hasId l i = true then allIds l r else false
def pidsS : List (Nat × AV) → List Nat
  | [] => []
  | (_, a) :: r => pids a ++ pidsS r
def blkIds : Option Blk → List Nat
  | some (.cells _ _ _ c) => pidsL c
  | some (.iter ..) => []
  | some (.loop _ _ _ sl) => pidsS sl
  | some .defer => []
  | none => []
def reachI : Bool → List Nat → List Nat → List Nat
  | true, a, _ => a
  | false, _, b => b
/-- The blocks that are reached from those of the list. -/
def reach (L : Nat → Option Blk) : Nat → List Nat → List Nat → List Nat
  | 0, _, acc => acc
  | _ + 1, [], acc => acc
  | n + 1, i :: r, acc => reachI (hasId acc i) (reach L n r acc) (reach L n (r ++ blkIds (L i)) (acc ++ [i]))
def idxOf (i : Nat) : List Nat → Nat
  | [] => deadId
  | j :: r => if i = j then 0 else idxOf i r + 1
def sigH (ids : List Nat) (nb k i : Nat) : Nat := if i < ids.length then ids.getD i deadId else if i < k then nb + (i - ids.length) else deadId
def handE1 (ids : List Nat) : Option Blk → List Blk → List Blk
  | some b, r => renB (fun j => idxOf j ids) b :: r
  | none, _ => []
def handE (L : Nat → Option Blk) (ids : List Nat) : List Nat → List Blk
  | [] => []
  | i :: r => handE1 ids (L i) (handE L ids r)
def hpArg (L : Nat → Option Blk) (ids : List Nat) (a : AV) : Bool → Option (AV × List Nat × Prop)
  | true => some (ren (fun j => idxOf j ids) a, [], True)
  | false => purA L a
def hpJoin : Option (AV × List Nat × Prop) → Option (List AV × List Nat × Prop) → Option (List AV × List Nat × Prop)
  | some (a', i, q), some (r', V, s) => some (a' :: r', i ++ V, q ∧ s)
  | none, _ => none
  | some _, none => none
def hpL (L : Nat → Option Blk) (ids : List Nat) : List AV → Option (List AV × List Nat × Prop)
  | [] => some ([], [], True)
  | a :: r => hpJoin (hpArg L ids a (allIds ids (pids a))) (hpL L ids r)
def kept1 (σ : Nat → Nat) (ids : List Nat) (a : AV) : Bool → Prop
  | true => ren σ (ren (fun j => idxOf j ids) a) = a
  | false => True
def keptOK (σ : Nat → Nat) (ids : List Nat) : List AV → Prop
  | [] => True
  | a :: r => kept1 σ ids a (allIds ids (pids a)) ∧ keptOK σ ids r
def sameBlks (L : Nat → Option Blk) (σ : Nat → Nat) : List Blk → List Nat → Prop
  | [], [] => True
  | b :: r, i :: s => L i = some (renB σ b) ∧ sameBlks L σ r s
  | _, _ => False
def apartIds : List Nat → List Nat → Bool
  | [], _ => true
  | i :: r, ids => if hasId ids i = true then false else apartIds r ids
def noDup : List Nat → Bool
  | [] => true
  | i :: r => if hasId r i = true then false else noDup r
def callHb (L : Nat → Option Blk) (nb : Nat) (xs : List AV) (ids : List Nat) (V : List Nat) (q : Prop) (E : List Blk) : Option (List Blk × AV × Prop) → CallR
  | some (E', res, p) => some (ren (sigH ids nb E'.length) res, newBlks (sigH ids nb E'.length) E' 0 ++ marks L V,
      q ∧ p ∧ keptOK (sigH ids nb E'.length) ids xs ∧ sameBlks L (sigH ids nb E'.length) E ids ∧ noDup ids = true ∧ apartIds V ids = true ∧ ids.length ≤ E'.length ∧ freshIds L nb (E'.drop ids.length) 0)
  | none => none
def callHa (C : Tbl) (L : Nat → Option Blk) (nb : Nat) (f : FuncId) (xs : List AV) (ids : List Nat) (E : List Blk) : Option (List AV × List Nat × Prop) → CallR
  | some (ys, V, q) => callHb L nb xs ids V q E (C f E ys)
  | none => none
def callHi (C : Tbl) (L : Nat → Option Blk) (nb : Nat) (f : FuncId) (xs : List AV) (ids : List Nat) : CallR := callHa C L nb f xs ids (handE L ids ids) (hpL L ids xs)
def evCallH (C : Tbl) (L : Nat → Option Blk) (nb : Nat) (f : FuncId) (xs : List AV) (todo : List Nat) : CallR := callHi C L nb f xs (reach L 16 todo [])
def orH (a : CallR) [b : Hold CallR] : CallR := match a with | some r => some r | none => b.v
theorem orH_some {r b} : @orH (some r) b = some r := rfl
theorem orH_none {b} : @orH none ⟨b⟩ = b := rfl

def evCallP (C : Tbl) (L : Nat → Option Blk) (id : Nat) (f : FuncId) (xs : List AV) : CallR :=
  @orH (evCall1 C L id f xs) ⟨@orH (evCallH C L id f xs (midsL xs)) ⟨evCallH C L id f xs (pidsL xs)⟩⟩

def evCall (C : Tbl) (L : Nat → Option Blk) (id : Nat) (ρ : Operand → AV) : Op → Option (AV × List (Nat × Blk) × Prop)
  | .call { callee := .value g, args, .. } => match (ρ g).un with
    | .clo f k cs => if f = yldF then none else evCallP C L id f (cs.take k ++ (args.toList.map (fun x => (ρ x).un) ++ cs.drop k))
    | .yld id' => evCallP C L id yldF (.yld id' :: args.toList.map (fun x => (ρ x).un))
    | _ => none
  | _ => none

def evStep (P : Program) (C : Tbl) (wr : Bool) (L : Nat → Option Blk) (dst : Option Nat) (ρ : Operand → AV) (op : Op) : Option (AV × List (Nat × Blk) × Prop) :=
  match evPure P wr ρ op with
  | some (v, p) => some (v, [], p)
  | none => match evRead P L ρ op with
    | some (v, p) => some (v, [], p)
    | none => match evEff P L (idOf dst) ρ op with
      | some (v, i, b, p) => some (v, [(i, b)], p)
      | none => evCall C L (idOf dst) ρ op

/-! ### it is right -/
section
variable {P : Program} {w : World} {ok : Nat → Nat → Prop} {L : Nat → Option Blk} {φ : Nat → Option Nat} {ρ : Operand → AV} {rv : Operand → Value} {o : Oper} {v' : AV} {p : Prop}

theorem R.boolInv {b v} (h : R w ok L φ (.bool b) v) : v = .bool b := by cases h with | pure _ _ h => cases h; rfl
theorem R.ownInv {sz l v} (h : R w ok L φ (.own sz l) v) : ∃ b, v = .bool b ∧ (b = true → l = []) := by cases h with | pure _ _ h => cases h; exact ⟨_, rfl, ‹_›⟩
theorem R.intInv {k n v} (h : R w ok L φ (.int k n) v) : v = .int k n := by cases h with | pure _ _ h => cases h; rfl
theorem R.strInv {s v} (h : R w ok L φ (.str s) v) : v = .string ⟨s.toArray⟩ := by cases h with | pure _ _ h => cases h; rfl
theorem R.radrInv {cs v} (h : R w ok L φ (.radr cs) v) : ∃ b o, v = .pointer (some ⟨b, o, none⟩) := by cases h with | pure _ _ h => cases h; exact ⟨_, _, rfl⟩

theorem boundsR {lo : Option Operand} (hR : ∀ x, R w ok L φ (ρ x) (rv x)) (hu : ∀ x ∈ lo.toList, (ρ x).uc) :
    (∀ k n, unO ρ lo = some (.int k n) → lo.map rv = some (.int k n)) ∧ (unO ρ lo = none → lo.map rv = none) := by
  cases lo with
  | none => exact ⟨fun k n h => by simp [unO] at h, fun _ => rfl⟩
  | some x =>
    refine ⟨fun k n h => ?_, fun h => by simp [unO] at h⟩
    simp only [unO, Option.some.injEq] at h
    have := (hR x).un (hu x (by simp))
    rw [h] at this
    simp [this.intInv]

theorem arr1 {α : Type} {a : Array α} {x : α} (h : a.toList = [x]) : a = #[x] := by
  apply Array.ext'; simpa using h
theorem arr2 {α : Type} {a : Array α} {x y : α} (h : a.toList = [x, y]) : a = #[x, y] := by
  apply Array.ext'; simpa using h

theorem map_two {α : Type} {f : Operand → α} {a : Array Operand} {x y : α} (h : a.toList.map f = [x, y]) : ∃ p q, a = #[p, q] ∧ x = f p ∧ y = f q := by
  cases hl : a.toList with
  | nil => rw [hl] at h; simp at h
  | cons p r =>
    cases r with
    | nil => rw [hl] at h; simp at h
    | cons q r =>
      cases r with
      | nil => rw [hl] at h; simp at h; exact ⟨p, q, arr2 hl, h.1.symm, h.2.symm⟩
      | cons _ _ => rw [hl] at h; simp at h
theorem map_one {α : Type} {f : Operand → α} {a : Array Operand} {x : α} (h : a.toList.map f = [x]) : ∃ p, a = #[p] ∧ x = f p := by
  cases hl : a.toList with
  | nil => rw [hl] at h; simp at h
  | cons p r =>
    cases r with
    | nil => rw [hl] at h; simp at h; exact ⟨p, arr1 hl, h.symm⟩
    | cons _ _ => rw [hl] at h; simp at h

theorem builtin_run (b : Builtin) (c : Call) (ho : o.op = .call c) (hc : c.callee = .builtin b) :
    ∃ cs, (execOp rv o).run P w = (builtin b c.argTypes o.type cs (c.args.map rv)).run P w := by
  refine ⟨c.args.map fun | .const _ => true | _ => false, ?_⟩
  simp only [execOp, ho, resolve, hc, invoke, Sem.run_bind, Sem.run_pure, Result.andThen_ok]
  congr 2

theorem evPure_ok {wr : Bool} (hhp : HeapOK w ok L φ) (ho : evPure P wr ρ o.op = some (v', p)) (hp : p) (hR : ∀ x, R w ok L φ (ρ x) (rv x)) (hu : ucL ρ (opnds o.op)) :
    ∃ v, (execOp rv o).run P w = .ok (.value v) w ∧ R w ok L φ v' v := by
  have hU := ucL_mem hu
  cases hop : o.op <;> rw [hop] at ho hU <;> simp only [evPure, reduceCtorEq] at ho
  case move x =>
    simp only [Option.some.injEq, Prod.mk.injEq] at ho
    obtain ⟨rfl, rfl⟩ := ho
    exact ⟨_, by simp [execOp, hop], (hR x).un (hU x (by simp [opnds]))⟩
  case assign x =>
    simp only [Option.some.injEq, Prod.mk.injEq] at ho
    obtain ⟨rfl, rfl⟩ := ho
    exact ⟨_, by simp [execOp, hop], (hR x).un (hU x (by simp [opnds]))⟩
  case pick c a b =>
    unfold evPick at ho
    split at ho
    · rename_i t ht
      split at ho <;> simp only [Option.some.injEq, reduceCtorEq, Prod.mk.injEq] at ho
      · rename_i x y hx hy
        obtain ⟨rfl, rfl⟩ := ho
        obtain ⟨h1, h2, h3⟩ := hp
        have hc := (hR c).un h1
        rw [ht] at hc
        have hcv := hc.boolInv
        cases t with
        | true =>
          have ha := (hR a).un (h2 rfl)
          rw [hx] at ha
          have hav := ha.boolInv
          exact ⟨_, by simp [execOp, hop, hcv, asBool, hav], .pure _ _ (.bool _)⟩
        | false =>
          have hb := (hR b).un (h3 rfl)
          rw [hy] at hb
          have hbv := hb.boolInv
          exact ⟨_, by simp [execOp, hop, hcv, asBool, hbv], .pure _ _ (.bool _)⟩
      · rename_i x hx _
        obtain ⟨rfl, rfl⟩ := ho
        obtain ⟨h1, h2, h3⟩ := hp
        have hc := (hR c).un h1
        rw [ht] at hc
        have hcv := hc.boolInv
        have ht' : t = true := h2
        subst ht'
        have ha := (hR a).un h3
        rw [hx] at ha
        have hav := ha.boolInv
        exact ⟨_, by simp [execOp, hop, hcv, asBool, hav], .pure _ _ (.bool _)⟩
      · rename_i y hy _
        obtain ⟨rfl, rfl⟩ := ho
        obtain ⟨h1, h2, h3⟩ := hp
        have hc := (hR c).un h1
        rw [ht] at hc
        have hcv := hc.boolInv
        have ht' : t = false := by simpa [isT] using h2
        subst ht'
        have hb := (hR b).un h3
        rw [hy] at hb
        have hbv := hb.boolInv
        exact ⟨_, by simp [execOp, hop, hcv, asBool, hbv], .pure _ _ (.bool _)⟩
    · simp at ho
  case binOp op t x y yt =>
    obtain ⟨v, h1, h2⟩ := evBinX_ok (ox := x) (oy := y) ho hp ((hR x).un (hU x (by simp [opnds]))) ((hR y).un (hU y (by simp [opnds])))
    exact ⟨v, by simp only [execOp, hop]; rw [Sem.run_bind, h1]; rfl, h2⟩
  case unOp op t x =>
    obtain ⟨v, h1, h2⟩ := evUn_ok (P := P) ho hp ((hR x).un (hU x (by simp [opnds])))
    exact ⟨v, by simp only [execOp, hop]; rw [Sem.run_bind, h1]; rfl, h2⟩
  case convert s d x =>
    obtain ⟨v, h1, h2⟩ := evConv_ok ho hp ((hR x).un (hU x (by simp [opnds])))
    exact ⟨v, by simp only [execOp, hop]; rw [Sem.run_bind, h1]; rfl, h2⟩
  case index t x i =>
    obtain ⟨v, h1, h2⟩ := evIndex_ok ho hp ((hR x).un (hU x (by simp [opnds]))) ((hR i).un (hU i (by simp [opnds])))
    exact ⟨v, by simp only [execOp, hop]; rw [Sem.run_bind, h1]; rfl, h2⟩
  case field t x f =>
    obtain ⟨v, h1, h2⟩ := evField_ok ho hp ((hR x).un (hU x (by simp [opnds])))
    exact ⟨v, by simp only [execOp, hop]; rw [Sem.run_bind, h1]; rfl, h2⟩
  case fieldAddr t x f =>
    obtain ⟨v, h1, h2⟩ := evFieldAddr_ok ho hp ((hR x).un (hU x (by simp [opnds])))
    exact ⟨v, by simp only [execOp, hop]; rw [Sem.run_bind, h1]; rfl, h2⟩
  case indexAddr t x i =>
    obtain ⟨v, h1, h2⟩ := evIndexAddr_ok ho hp ((hR x).un (hU x (by simp [opnds]))) ((hR i).un (hU i (by simp [opnds])))
    exact ⟨v, by simp only [execOp, hop]; rw [Sem.run_bind, h1]; rfl, h2⟩
  case slice t x lo hi mx =>
    obtain ⟨a1, a2⟩ := boundsR (lo := lo) hR (fun y hy => hU y (by simp only [opnds, List.mem_append]; exact .inl (.inl (.inr hy))))
    obtain ⟨b1, b2⟩ := boundsR (lo := hi) hR (fun y hy => hU y (by simp only [opnds, List.mem_append]; exact .inl (.inr hy)))
    obtain ⟨c1, c2⟩ := boundsR (lo := mx) hR (fun y hy => hU y (by simp only [opnds, List.mem_append]; exact .inr hy))
    obtain ⟨v, h1, h2⟩ := evSlice_ok hhp ho hp ((hR x).un (hU x (by simp [opnds]))) a1 a2 b1 b2 c1 c2
    exact ⟨v, by simp only [execOp, hop]; rw [Sem.run_bind, h1]; rfl, h2⟩
  case extract x i =>
    obtain ⟨v, h1, h2⟩ := evExtract_ok (P := P) ho hp ((hR x).un (hU x (by simp [opnds])))
    exact ⟨v, by simp only [execOp, hop]; rw [Sem.run_bind, h1]; rfl, h2⟩
  case build t ps =>
    obtain ⟨v, h1, h2⟩ := evBuild_ok (qs := ps.map fun (i, x) => (i, rv x)) ho hp (by simp) (fun i x y hx hy => by
      simp only [List.getElem?_map, Array.getElem?_map, Option.map_eq_some_iff] at hx hy
      obtain ⟨a, ha, rfl⟩ := hx
      obtain ⟨b, hb, rfl⟩ := hy
      have e : a = b := by simp at ha; rw [ha] at hb; exact Option.some.inj hb
      subst e
      exact ⟨rfl, (hR _).un (hU _ (by simp only [opnds, List.mem_map]; exact ⟨a, List.mem_of_getElem? ha, rfl⟩))⟩)
    exact ⟨v, by simp only [execOp, hop]; rw [Sem.run_bind, h1]; rfl, h2⟩
  case makeFunc fn fst cs =>
    cases fn <;> simp only [evPure, reduceCtorEq] at ho
    rename_i f
    simp only [Option.some.injEq, Prod.mk.injEq] at ho
    obtain ⟨rfl, rfl⟩ := ho
    refine ⟨.func (.func f) (fst.map rv) (cs.map rv), by simp [execOp, hop, Instr.makeFunc], ?_⟩
    have := R.clo (w := w) (ok := ok) (L := L) (φ := φ) f fst.size ((fst.toList ++ cs.toList).map fun x => (ρ x).un) ((fst.toList ++ cs.toList).map rv) (by simp) (fun i a v ha hv => by
      simp only [List.getElem?_map, Option.map_eq_some_iff] at ha hv
      obtain ⟨x, hx, rfl⟩ := ha
      obtain ⟨y, hy, rfl⟩ := hv
      rw [hx] at hy; cases hy
      exact (hR x).un (hU x (by simp only [opnds]; exact List.mem_of_getElem? hx)))
    have e1 : (((fst.toList ++ cs.toList).map rv).take fst.size).toArray = fst.map rv := by
      apply Array.ext'; rw [List.map_append, List.take_left' (by simp)]; simp
    have e2 : (((fst.toList ++ cs.toList).map rv).drop fst.size).toArray = cs.map rv := by
      apply Array.ext'; rw [List.map_append, List.drop_left' (by simp)]; simp
    rw [e1, e2] at this
    exact this
  case nilCheck x =>
    have hx := (hR x).un (hU x (by simp [opnds]))
    unfold evNilCheck at ho
    split at ho <;> simp only [Option.some.injEq, reduceCtorEq, Prod.mk.injEq] at ho <;> obtain ⟨rfl, rfl⟩ := ho <;> rename_i he <;> rw [he] at hx
    · refine ⟨rv x, ?_, hx⟩
      obtain ⟨b, o, e⟩ := hx.radrInv
      simp [execOp, hop, e]
    · refine ⟨rv x, ?_, hx⟩
      obtain ⟨pa, _, _, _, _, e, _⟩ := hx.ptrInv
      simp [execOp, hop, e]
    · refine ⟨rv x, ?_, hx⟩
      obtain ⟨b, e⟩ : ∃ b, rv x = .pointer (some ⟨b, 0, none⟩) := by
        generalize rv x = u at hx
        cases hx with
        | pure _ _ h => cases h
        | it _ _ _ b => exact ⟨b, rfl⟩
      simp [execOp, hop, e]
    · refine ⟨rv x, ?_, hx⟩
      obtain ⟨b, e⟩ : ∃ b, rv x = .func (.yield b) #[] #[] := by
        generalize rv x = u at hx
        cases hx with
        | pure _ _ h => cases h
        | yld _ _ _ _ _ b => exact ⟨b, rfl⟩
      simp [execOp, hop, e]
    · refine ⟨rv x, ?_, hx⟩
      obtain ⟨f, fs, cs, e⟩ : ∃ f fs cs, rv x = .func (.func f) fs cs := by
        generalize rv x = u at hx
        cases hx with
        | pure _ _ h => cases h; exact ⟨_, _, _, rfl⟩
        | clo f k cs vs => exact ⟨_, _, _, rfl⟩
      simp [execOp, hop, e]
  case call c =>
    obtain ⟨cal, args, ats⟩ := c
    cases cal <;> simp only [evPure, reduceCtorEq] at ho
    rename_i b
    obtain ⟨kk, hrun⟩ := builtin_run (P := P) (w := w) (rv := rv) b _ hop rfl
    rw [hrun]
    unfold evBuiltin at ho
    split at ho
    · split at ho <;> try (simp at ho; done)
      rename_i t x ht hx
      obtain ⟨y, rfl, rfl⟩ := map_one hx
      have e := arr1 ht
      subst e
      obtain ⟨v, h1, h2⟩ := evLen_ok (ty := o.type) ho hp ((hR y).un (hU y (by simp [opnds])))
      refine ⟨v, ?_, h2⟩
      simp only [builtin, Sem.run_bind, List.map_toArray, List.map_cons, List.map_nil, h1, Result.andThen_ok, Sem.run_pure]
    · split at ho <;> try (simp at ho; done)
      rename_i x y hx
      obtain ⟨x1, y1, rfl, rfl, rfl⟩ := map_two hx
      obtain ⟨v, h1, h2⟩ := evMax_ok (P := P) (t := ats) (ty := o.type) ho hp ((hR x1).un (hU x1 (by simp [opnds]))) ((hR y1).un (hU y1 (by simp [opnds])))
      refine ⟨v, ?_, h2⟩
      simp only [builtin, Sem.run_bind, List.map_toArray, List.map_cons, List.map_nil, h1, Result.andThen_ok, Sem.run_pure]
    · split at ho <;> try (simp at ho; done)
      rename_i x y hx
      obtain ⟨x1, y1, rfl, rfl, rfl⟩ := map_two hx
      obtain ⟨v, h1, h2⟩ := evMin_ok (P := P) (t := ats) (ty := o.type) ho hp ((hR x1).un (hU x1 (by simp [opnds]))) ((hR y1).un (hU y1 (by simp [opnds])))
      refine ⟨v, ?_, h2⟩
      simp only [builtin, Sem.run_bind, List.map_toArray, List.map_cons, List.map_nil, h1, Result.andThen_ok, Sem.run_pure]
    · simp at ho

theorem evRead_ok (ho : evRead P L ρ o.op = some (v', p)) (hp : p) (hh : HeapOK w ok L φ) (hR : ∀ x, R w ok L φ (ρ x) (rv x)) (hu : ucL ρ (opnds o.op)) :
    ∃ v, (execOp rv o).run P w = .ok (.value v) w ∧ R w ok L φ v' v := by
  have hU := ucL_mem hu
  cases hop : o.op <;> rw [hop] at ho hU <;> simp only [evRead, reduceCtorEq] at ho
  case load t x =>
    obtain ⟨v, h1, h2⟩ := rdLoad_ok ho hp hh ((hR x).un (hU x (by simp [opnds])))
    exact ⟨v, by simp only [execOp, hop]; rw [Sem.run_bind, h1]; rfl, h2⟩
  case indexAddr t x i =>
    obtain ⟨v, h1, h2⟩ := rdIndexAddr_ok ho hp ((hR x).un (hU x (by simp [opnds]))) ((hR i).un (hU i (by simp [opnds])))
    exact ⟨v, by simp only [execOp, hop]; rw [Sem.run_bind, h1]; rfl, h2⟩
  case slice t x lo hi mx =>
    obtain ⟨a1, a2⟩ := boundsR (lo := lo) hR (fun y hy => hU y (by simp only [opnds, List.mem_append]; exact .inl (.inl (.inr hy))))
    obtain ⟨b1, b2⟩ := boundsR (lo := hi) hR (fun y hy => hU y (by simp only [opnds, List.mem_append]; exact .inl (.inr hy)))
    obtain ⟨c1, c2⟩ := boundsR (lo := mx) hR (fun y hy => hU y (by simp only [opnds, List.mem_append]; exact .inr hy))
    obtain ⟨v, h1, h2⟩ := rdSlice_ok ho hp hh ((hR x).un (hU x (by simp [opnds]))) a1 a2 b1 b2 c1 c2
    exact ⟨v, by simp only [execOp, hop]; rw [Sem.run_bind, h1]; rfl, h2⟩
  case convert s d x =>
    obtain ⟨v, h1, h2⟩ := rdText_ok ho hp hh ((hR x).un (hU x (by simp [opnds])))
    exact ⟨v, by simp only [execOp, hop]; rw [Sem.run_bind, h1]; rfl, h2⟩
  case call c =>
    obtain ⟨cal, args, ats⟩ := c
    cases cal <;> try (simp [evRead] at ho; done)
    rename_i b
    cases b <;> try (simp [evRead] at ho; done)
    simp only [evRead] at ho
    obtain ⟨kk, hrun⟩ := builtin_run (P := P) (w := w) (rv := rv) .len _ hop rfl
    rw [hrun]
    split at ho <;> try (simp at ho; done)
    rename_i t x ht hx
    have e := arr1 ht
    have e' := arr1 hx
    subst e; subst e'
    obtain ⟨v, h1, h2⟩ := rdLen_ok (ty := o.type) ho hp ((hR x).un (hU x (by simp [opnds])))
    refine ⟨v, ?_, h2⟩
    simp only [builtin, Sem.run_bind, List.map_toArray, List.map_cons, List.map_nil, h1, Result.andThen_ok, Sem.run_pure]

theorem run_value {s : Sem Value} {v : Value} {w' : World} (h : s.run P w = .ok v w') : (do pure (Next.value (← s)) : Sem Next).run P w = .ok (.value v) w' := by
  rw [Sem.run_bind, h]; rfl

theorem evEff_ok {w0 : World} {X : Nat → Prop} {id i : Nat} {b : Blk} (ho : evEff P L id ρ o.op = some (v', i, b, p)) (hp : p) (hh : HeapOK w ok L φ) (hw0 : w0.heap.size ≤ w.heap.size)
    (hR : ∀ x, R w ok L φ (ρ x) (rv x)) (hu : ucL ρ (opnds o.op)) :
    ∃ n v w' φ', (execOp rv o).run P w = .ok n w' ∧ (n = .value v ∨ (n = .skip ∧ v = undef)) ∧ Ext w0 X L ok φ w (updL L i b) ok φ' w' ∧ R w' ok (updL L i b) φ' v' v := by
  have hU := ucL_mem hu
  have fin : ∀ {s : Sem Value}, EffOK P w0 X s L ok φ w v' i b → execOp rv o = (do pure (Next.value (← s))) →
      ∃ n v w' φ', (execOp rv o).run P w = .ok n w' ∧ (n = .value v ∨ (n = .skip ∧ v = undef)) ∧ Ext w0 X L ok φ w (updL L i b) ok φ' w' ∧ R w' ok (updL L i b) φ' v' v := by
    intro s ⟨v, w', φ', h1, h2, h3⟩ he
    exact ⟨.value v, v, w', φ', by rw [he]; exact run_value h1, .inl rfl, h2, h3⟩
  cases hop : o.op <;> rw [hop] at ho hU <;> try (simp [evEff] at ho; done)
  case alloc t =>
    simp only [evEff] at ho
    split at ho
    · rename_i z hz
      split at ho <;> simp only [Option.some.injEq, reduceCtorEq, Prod.mk.injEq] at ho
      rename_i v1 i1 b1 p1 he
      obtain ⟨rfl, rfl, rfl, rfl⟩ := ho
      exact fin (efAlloc_ok hz he hp.1 hp.2 hh hw0) (by simp [execOp, hop])
    · simp at ho
  case box t x =>
    simp only [evEff] at ho
    exact fin (efBoxed_ok ho hp hh hw0 ((hR x).un (hU x (by simp [opnds])))) (by simp [execOp, hop, Instr.box])
  case buildSlice t n ps =>
    simp only [evEff] at ho
    refine fin (s := Instr.buildSlice t n (ps.map fun (i, x) => (i, rv x))) (efBuildSlice_ok ho hp hh hw0 (by simp) (fun i x y hx hy => by
      simp only [List.getElem?_map, Array.getElem?_map, Option.map_eq_some_iff] at hx hy
      obtain ⟨a, ha, rfl⟩ := hx
      obtain ⟨b, hb, rfl⟩ := hy
      have e : a = b := by simp at ha; rw [ha] at hb; exact Option.some.inj hb
      subst e
      exact ⟨rfl, (hR _).un (hU _ (by simp only [opnds, List.mem_map]; exact ⟨a, List.mem_of_getElem? ha, rfl⟩))⟩)) (by simp [execOp, hop])
  case makeSlice t l c =>
    simp only [evEff] at ho
    exact fin (efMake_ok ho hp hh hw0 ((hR l).un (hU l (by simp [opnds]))) ((hR c).un (hU c (by simp [opnds])))) (by simp [execOp, hop])
  case store t x y =>
    simp only [evEff] at ho
    have hany : v' = .any := efStore_any ho
    obtain ⟨w', φ', h1, h2⟩ := efStore_ok (w0 := w0) (X := X) ho hp hh ((hR x).un (hU x (by simp [opnds]))) ((hR y).un (hU y (by simp [opnds])))
    refine ⟨.skip, undef, w', φ', ?_, .inr ⟨rfl, rfl⟩, h2, by rw [hany]; exact .pure _ _ (.any _)⟩
    simp only [execOp, hop, Sem.run_bind, h1, Result.andThen_ok, Sem.run_pure]
  case convert s d x =>
    simp only [evEff] at ho
    exact fin (efBytes_ok ho hp hh hw0 ((hR x).un (hU x (by simp [opnds])))) (by simp [execOp, hop])
  case range t x =>
    simp only [evEff] at ho
    exact fin (efRange_ok ho hp hh hw0 ((hR x).un (hU x (by simp [opnds])))) (by simp [execOp, hop])
  case next x isS =>
    cases isS
    · simp [evEff] at ho
    · simp only [evEff] at ho
      exact fin (efNext_ok (P := P) (ty := o.type) ho hp hh ((hR x).un (hU x (by simp [opnds])))) (by simp [execOp, hop])
  case call c =>
    obtain ⟨cal, args, ats⟩ := c
    cases cal <;> try (simp [evEff] at ho; done)
    rename_i bb
    cases bb <;> try (simp [evEff] at ho; done)
    case clear =>
      simp only [evEff] at ho
      split at ho <;> try (simp at ho; done)
      rename_i t x ht hx
      have e := arr1 ht
      have e' := arr1 hx
      subst e; subst e'
      obtain ⟨v, w', φ', h1, h2, h3⟩ := efClear_ok (ty := o.type) (w0 := w0) (X := X) ho hp hh ((hR x).un (hU x (by simp [opnds])))
      obtain ⟨kk, hrun⟩ := builtin_run (P := P) (w := w) (rv := rv) .clear _ hop rfl
      refine ⟨.value v, v, w', φ', ?_, .inl rfl, h2, h3⟩
      rw [hrun]
      simp only [builtin, Sem.run_bind, List.map_toArray, List.map_cons, List.map_nil, h1, Result.andThen_ok, Sem.run_pure]
    case copy =>
      simp only [evEff] at ho
      split at ho <;> try (simp at ho; done)
      rename_i t u x y ht hx
      have e := arr2 ht
      have e' := arr2 hx
      subst e; subst e'
      obtain ⟨v, w', φ', h1, h2, h3⟩ := efCopy_ok (sT := u) (ty := o.type) (w0 := w0) (X := X) ho hp hh ((hR x).un (hU x (by simp [opnds]))) ((hR y).un (hU y (by simp [opnds])))
      obtain ⟨kk, hrun⟩ := builtin_run (P := P) (w := w) (rv := rv) .copy _ hop rfl
      refine ⟨.value v, v, w', φ', ?_, .inl rfl, h2, h3⟩
      rw [hrun]
      simp only [builtin, Sem.run_bind, List.map_toArray, List.map_cons, List.map_nil, h1, Result.andThen_ok, Sem.run_pure]
    simp only [evEff] at ho
    split at ho <;> try (simp at ho; done)
    rename_i t u x y ht hx
    have e := arr2 ht
    have e' := arr2 hx
    subst e; subst e'
    obtain ⟨v, w', φ', h1, h2, h3⟩ := efAppend_ok (ty := o.type) (w0 := w0) (X := X) ho hp hh hw0 ((hR x).un (hU x (by simp [opnds]))) ((hR y).un (hU y (by simp [opnds])))
    obtain ⟨kk, hrun⟩ := builtin_run (P := P) (w := w) (rv := rv) .append _ hop rfl
    refine ⟨.value v, v, w', φ', ?_, .inl rfl, h2, h3⟩
    rw [hrun]
    simp only [builtin, Sem.run_bind, List.map_toArray, List.map_cons, List.map_nil, h1, Result.andThen_ok, Sem.run_pure]

/-! a call -/
theorem scal_R {w' : World} {ok' : Nat → Nat → Prop} {L' : Nat → Option Blk} {φ' : Nat → Option Nat} {a : AV} {v : Value} (hs : scal a = true) (h : R w ok L φ a v) : R w' ok' L' φ' a v := by
  have base : ∀ {a v}, (match a with | .any | .bool _ | .int .. | .str _ | .nils | .nilp | .nili | .nilf => true | _ => false) = true → R w ok L φ a v → Rp w' ok' a v := by
    intro a v hs h
    cases h with
    | pure _ _ h => cases h <;> first | exact .any _ | exact .bool _ | exact .int _ _ | exact .str _ | exact .nils | exact .nilp | exact .nili | exact .nilf | (simp at hs)
    | _ => simp at hs
  have aggs : ∀ {cs v}, (cs.all fun | AV.any | .bool _ | .int .. | .str _ | .nils | .nilp | .nili | .nilf => true | _ => false) = true → R w ok L φ (.agg cs) v → Rp w' ok' (.agg cs) v := by
    intro cs v hs h
    obtain ⟨vs, rfl, hl, ho, hr⟩ := h.aggInv
    refine .agg cs vs hl ho (fun i a v ha hv => base ?_ (hr i a v ha hv))
    exact List.all_eq_true.1 hs a (List.mem_of_getElem? ha)
  cases a <;> try (simp [scal] at hs; done)
  case any => exact .pure _ _ (base rfl h)
  case bool b => exact .pure _ _ (base rfl h)
  case int k n => exact .pure _ _ (base rfl h)
  case str s => exact .pure _ _ (base rfl h)
  case nils => exact .pure _ _ (base rfl h)
  case nilp => exact .pure _ _ (base rfl h)
  case nili => exact .pure _ _ (base rfl h)
  case nilf => exact .pure _ _ (base rfl h)
  case nxt m q r =>
    cases h with
    | pure _ _ h => cases h; exact .pure _ _ (.nxtT _ _); exact .pure _ _ (.nxtF _ _)
  case agg cs => exact .pure _ _ (aggs hs h)
  case tuple cs =>
    simp only [scal] at hs
    have hmem : ∀ (i : Nat) (a : AV) (v : Value), cs[i]? = some a → R w ok L φ a v → Rp w' ok' a v := by
      intro i a v ha hr
      have h1 := List.all_eq_true.1 hs a (List.mem_of_getElem? ha)
      cases a <;> try (simp at h1; done)
      case agg ds => exact aggs h1 hr
      all_goals exact base rfl hr
    cases h with
    | pure _ _ h => cases h with | tuple _ vs hl h2 => exact .pure _ _ (.tuple cs vs hl (fun i a v ha hv => hmem i a v ha (.pure _ _ (h2 i a v ha hv))))
    | tuple _ vs hl h2 => exact .pure _ _ (.tuple cs vs hl (fun i a v ha hv => hmem i a v ha (h2 i a v ha hv)))

theorem freshIds_spec {nb : Nat} : ∀ {E : List Blk} {i : Nat}, freshIds L nb E i → L deadId = none ∧ ∀ k, i ≤ k → k < i + E.length → L (nb + k) = none
  | [], i, h => ⟨h, fun k h1 h2 => by simp at h2; omega⟩
  | b :: r, i, h => by
    obtain ⟨h1, h2⟩ := h
    obtain ⟨h3, h4⟩ := freshIds_spec h2
    refine ⟨h3, fun k h5 h6 => ?_⟩
    by_cases e : k = i
    · subst e; exact h1
    · exact h4 k (by omega) (by simp at h6; omega)

theorem newBlks_lk (σ : Nat → Nat) (j : Nat) (rest : List (Nat × Blk)) : ∀ (E : List Blk) (i : Nat), (∀ a b, i ≤ a → a < i + E.length → i ≤ b → b < i + E.length → σ a = σ b → a = b) →
    lkB (newBlks σ E i ++ rest) j = match (List.range' i E.length).find? (fun k => σ k == j) with | some k => (E[k - i]?).map (renB σ) | none => lkB rest j
  | [], i, _ => by simp [newBlks]
  | b :: r, i, hinj => by
    simp only [newBlks, List.cons_append, lkB, List.length_cons, List.range'_succ, List.find?_cons]
    by_cases e : σ i = j
    · simp [e]
    · rw [if_neg e, show (σ i == j) = false by simpa using e]
      simp only
      rw [newBlks_lk σ j rest r (i + 1) (fun a b h1 h2 h3 h4 => hinj a b (by omega) (by simp; omega) (by omega) (by simp; omega))]
      cases hf : (List.range' (i + 1) r.length).find? (fun k => σ k == j) with
      | none => rfl
      | some k =>
        have hm := List.mem_of_find?_eq_some hf
        have := List.mem_range'_1.1 hm
        simp only
        rw [show k - i = (k - (i + 1)) + 1 by omega, List.getElem?_cons_succ]

theorem marks_lk (Lst : List (Nat × Blk)) (hL : L = lkB Lst) (j : Nat) : ∀ V, lkB (marks L V ++ Lst) j = if j ∈ V then (L j).map roB else L j
  | [] => by simp [marks, hL]
  | i :: r => by
    simp only [marks]
    cases hi : L i with
    | none =>
      simp only
      rw [marks_lk Lst hL j r]
      by_cases e : j = i
      · subst e; simp [hi]
      · simp [e]
    | some b =>
      simp only [List.cons_append, lkB]
      by_cases e : i = j
      · subst e; simp [hi]
      · rw [if_neg e, marks_lk Lst hL j r]
        simp [Ne.symm e]

theorem sig_lt {nb k i : Nat} (h : i < k) : sig nb k i = nb + i := by simp [sig, h]

/-- The call's effect, as the evaluator sees it. -/
theorem evCall1_ok {C : Tbl} (hC : TblOK P C) {w0 : World} {X : Nat → Prop} {Lst : List (Nat × Blk)} {id f : Nat} {xs : List AV} {u : List (Nat × Blk)} {vs : List Value} (hL : L = lkB Lst)
    (ho : evCall1 C L id f xs = some (v', u, p)) (hp : p) (hh : HeapOK w ok L φ) (hl : vs.length = xs.length)
    (hr : ∀ (i : Nat) (a : AV) (v : Value), xs[i]? = some a → vs[i]? = some v → R w ok L φ a v) :
    CallsX P f vs w fun e w' => ∃ v ok' φ', e = .returned v ∧ Ext w0 X L ok φ w (lkB (u ++ Lst)) ok' φ' w' ∧ R w' ok' (lkB (u ++ Lst)) φ' v' v := by
  unfold evCall1 call1a at ho
  split at ho
  · rename_i ys V q hpur
    have main : ∀ E' res p', C f [] ys = some (E', res, p') → p' → q → (freshIds L id E' 0) →
        CallsX P f vs w fun e w' => ∃ v ok' φ', e = .returned v ∧ Ext w0 X L ok φ w (lkB (newBlks (sig id E'.length) E' 0 ++ (marks L V ++ Lst))) ok' φ' w' ∧
          R w' ok' (lkB (newBlks (sig id E'.length) E' 0 ++ (marks L V ++ Lst))) φ' (ren (sig id E'.length) res) v := by
      intro E' res p' hc hp' hq hfr
      have hspec := hC f [] ys E' res p' hc
      obtain ⟨h1, h2⟩ := purL_ok (okv := fun b o => ok b o ∨ Seen L φ V b o) hh hpur hq hl hr (fun _ _ h => .inl h) (fun _ _ h => .inr h)
      obtain ⟨hdead, hnew⟩ := freshIds_spec hfr
      have hs : Hands L [] (sig id E'.length) V E'.length := by
        refine ⟨fun i b hb => by simp at hb, fun i _ => ?_, fun i j hi hj e => ?_, Nat.zero_le _⟩
        · by_cases hi : i < E'.length
          · rw [sig_lt hi]; exact hnew i (Nat.zero_le _) (by omega)
          · simp only [sig, if_neg hi]; exact hdead
        · rw [sig_lt hi, sig_lt hj] at e; omega
      refine (hspec hp' w (fun b o => ok b o ∨ Seen L φ V b o) (fun i => φ (sig id E'.length i)) vs (hh.callee hs) (by rw [h1]) (fun i a v ha hv => .pure _ _ (h2 i a v ha hv))).mono ?_
      rintro e w' ⟨v, ok', φ', rfl, post⟩
      obtain ⟨g1, g2⟩ := Ext.call (w0 := w0) (X := X) hh hs post
      have hfun : afterL L (sig id E'.length) V E' = lkB (newBlks (sig id E'.length) E' 0 ++ (marks L V ++ Lst)) := by
        funext j
        rw [newBlks_lk (sig id E'.length) j (marks L V ++ Lst) E' 0 (fun a b _ h1 _ h2 e => by rw [sig_lt (by omega), sig_lt (by omega)] at e; omega), marks_lk Lst hL j V]
        simp only [afterL, List.range_eq_range', Nat.sub_zero]
        try rfl
      rw [hfun] at g1 g2
      exact ⟨v, ok', _, rfl, g1, g2⟩
    unfold call1b at ho
    split at ho
    · rename_i res p' hc
      unfold call1c at ho
      split at ho <;> simp only [Option.some.injEq, reduceCtorEq, Prod.mk.injEq] at ho
      · rename_i hsc
        obtain ⟨rfl, rfl, rfl⟩ := ho
        obtain ⟨hq, hp'⟩ := hp
        have hspec := hC f [] ys [] res p' hc
        obtain ⟨h1, h2⟩ := purL_ok (okv := fun b o => ok b o ∨ Seen L φ V b o) hh hpur hq hl hr (fun _ _ h => .inl h) (fun _ _ h => .inr h)
        have hk : HeapOK w (fun b o => ok b o ∨ Seen L φ V b o) (lkE []) (fun _ => none) := by
          refine ⟨fun id sz ro d c h => by simp [lkE] at h, fun id b h => by simp [lkE] at h, fun _ _ => rfl, fun i j b h => by simp at h, fun b o hb => ⟨?_, fun id h => by simp at h⟩⟩
          rcases hb with hb | ⟨id, hid, h3, _⟩
          · exact (hh.shut b o hb).1
          · exact hh.lt h3
        refine (hspec hp' w _ _ vs hk (by rw [h1]) (fun i a v ha hv => .pure _ _ (h2 i a v ha hv))).mono ?_
        rintro e w' ⟨v, ok', φ', rfl, post⟩
        have hfr : Fr (fun _ => False) w w' := ⟨post.frame.os, post.frame.tape, post.frame.output, post.frame.size, fun k hk _ => post.frame.block k hk (fun ⟨i, hi⟩ => by simp at hi)⟩
        refine ⟨v, ok, φ, rfl, ?_, ?_⟩
        · rw [List.nil_append, ← hL]; exact Ext.quiet hh hfr
        · exact scal_R hsc post.val
      · obtain ⟨rfl, rfl, rfl⟩ := ho
        obtain ⟨hq, hp', hfr⟩ := hp
        have := main [] res p' hc hp' hq hfr
        simpa [newBlks] using this
    · rename_i b0 E0 res p' hc
      generalize b0 :: E0 = E' at *
      simp only [Option.some.injEq, Prod.mk.injEq] at ho
      obtain ⟨rfl, rfl, rfl⟩ := ho
      obtain ⟨hq, hp', hfr⟩ := hp
      have := main E' res p' hc hp' hq hfr
      rw [List.append_assoc]
      exact this
    · simp at ho
  · simp at ho

theorem hasId_iff {i : Nat} : ∀ {l : List Nat}, hasId l i = true ↔ i ∈ l
  | [] => by simp [hasId]
  | j :: r => by
    simp only [hasId]
    by_cases e : i = j
    · simp [e]
    · rw [if_neg e, hasId_iff]; simp [e]
theorem noDup_iff : ∀ {l : List Nat}, noDup l = true → l.Nodup
  | [], _ => List.nodup_nil
  | i :: r, h => by
    simp only [noDup] at h
    split at h
    · cases h
    · rename_i hn
      rw [hasId_iff] at hn
      exact List.nodup_cons.2 ⟨hn, noDup_iff h⟩
theorem apartIds_iff {ids : List Nat} : ∀ {l : List Nat}, apartIds l ids = true → ∀ i ∈ l, i ∉ ids
  | [], _, i, hi => by simp at hi
  | j :: r, h, i, hi => by
    simp only [apartIds] at h
    split at h
    · cases h
    · rename_i hn
      rw [hasId_iff] at hn
      rcases List.mem_cons.1 hi with rfl | hi
      · exact hn
      · exact apartIds_iff h i hi
theorem sameBlks_len {σ : Nat → Nat} : ∀ {E : List Blk} {ids : List Nat}, sameBlks L σ E ids → E.length = ids.length
  | [], [], _ => rfl
  | [], _ :: _, h => h.elim
  | _ :: _, [], h => h.elim
  | b :: r, i :: s, h => by simp [sameBlks_len h.2]
theorem sameBlks_get {σ : Nat → Nat} : ∀ {E : List Blk} {ids : List Nat}, sameBlks L σ E ids → ∀ (i : Nat) (b : Blk), E[i]? = some b → ∃ j, ids[i]? = some j ∧ L j = some (renB σ b)
  | [], _, _, i, b, hb => by simp at hb
  | _ :: _, [], h, _, _, _ => h.elim
  | c :: r, k :: s, h, i, b, hb => by
    cases i with
    | zero => simp at hb; subst hb; exact ⟨k, rfl, h.1⟩
    | succ i => exact sameBlks_get h.2 i b (by simpa using hb)
theorem hpL_ok {ids : List Nat} {E : List Blk} {σ : Nat → Nat} {m : Nat} (hh : HeapOK w ok L φ) : ∀ {xs ys : List AV} {V V' : List Nat} {q : Prop} {vs : List Value}, hpL L ids xs = some (ys, V, q) → q → keptOK σ ids xs → (∀ i ∈ V, i ∈ V') →
    Hands L E σ V' m → vs.length = xs.length → (∀ (i : Nat) (a : AV) (v : Value), xs[i]? = some a → vs[i]? = some v → R w ok L φ a v) →
    vs.length = ys.length ∧ ∀ (i : Nat) (a : AV) (v : Value), ys[i]? = some a → vs[i]? = some v → R w (fun b o => ok b o ∨ Seen L φ V' b o) (lkE E) (fun i => φ (σ i)) a v
  | [], ys, V, V', q, vs, h, hq, hk, hv, hs, hl, hr => by
    simp only [hpL, Option.some.injEq, Prod.mk.injEq] at h
    obtain ⟨rfl, _⟩ := h
    exact ⟨hl, fun i a v ha => by simp at ha⟩
  | a :: r, ys, V, V', q, [], h, hq, hk, hv, hs, hl, hr => by simp at hl
  | a :: r, ys, V, V', q, u :: us, h, hq, hk, hv, hs, hl, hr => by
    simp only [hpL] at h
    obtain ⟨hk1, hk⟩ := hk
    have tail : ∀ (r' : List AV) (V1 : List Nat) (q1 : Prop), hpL L ids r = some (r', V1, q1) → q1 → keptOK σ ids r → (∀ i ∈ V1, i ∈ V') → us.length = r'.length ∧ ∀ (i : Nat) (a : AV) (v : Value), r'[i]? = some a → us[i]? = some v → R w (fun b o => ok b o ∨ Seen L φ V' b o) (lkE E) (fun i => φ (σ i)) a v :=
      fun r' V1 q1 h1 h2 h3 h4 => hpL_ok hh h1 h2 h3 h4 hs (by simpa using hl) (fun i x v hx hv => hr (i + 1) x v (by simpa using hx) (by simpa using hv))
    have join : ∀ (a' : AV) (r' : List AV), R w (fun b o => ok b o ∨ Seen L φ V' b o) (lkE E) (fun i => φ (σ i)) a' u → (us.length = r'.length ∧ ∀ (i : Nat) (a : AV) (v : Value), r'[i]? = some a → us[i]? = some v → R w (fun b o => ok b o ∨ Seen L φ V' b o) (lkE E) (fun i => φ (σ i)) a v) →
        (u :: us).length = (a' :: r').length ∧ ∀ (i : Nat) (x : AV) (v : Value), (a' :: r')[i]? = some x → (u :: us)[i]? = some v → R w (fun b o => ok b o ∨ Seen L φ V' b o) (lkE E) (fun i => φ (σ i)) x v := by
      rintro a' r' h1 ⟨h2, h3⟩
      refine ⟨by simp [h2], fun i x v hx hv => ?_⟩
      cases i with
      | zero => simp at hx hv; subst hx; subst hv; exact h1
      | succ i => exact h3 i x v (by simpa using hx) (by simpa using hv)
    unfold hpJoin at h
    split at h <;> simp only [Option.some.injEq, reduceCtorEq, Prod.mk.injEq] at h
    rename_i a' i1 q1 r' V1 s1 ha hr'
    obtain ⟨rfl, rfl, rfl⟩ := h
    cases hal : allIds ids (pids a) with
    | true =>
      rw [hal] at ha hk1
      simp only [hpArg, Option.some.injEq, Prod.mk.injEq] at ha
      obtain ⟨rfl, rfl, _⟩ := ha
      refine join _ _ ?_ (tail r' V1 s1 hr' hq.2 hk (fun i hi => hv i (List.mem_append_right _ hi)))
      exact R.unren σ (fun i b hb => let ⟨b', h1, h2⟩ := hs.back i b hb; ⟨b', h1, h2, rfl⟩) (fun _ _ h => .inl h) (hr 0 a u rfl rfl) _ (Eq.symm hk1)
    | false =>
      rw [hal] at ha
      simp only [hpArg] at ha
      refine join _ _ (.pure _ _ (purA_ok hh ha hq.1 (hr 0 a u rfl rfl) (fun _ _ h => .inl h) (fun b o ⟨id, hid, hrest⟩ => .inr ⟨id, hv _ (List.mem_append_left _ hid), hrest⟩))) (tail r' V1 s1 hr' hq.2 hk (fun i hi => hv i (List.mem_append_right _ hi)))

theorem evCallH_ok {C : Tbl} (hC : TblOK P C) {w0 : World} {X : Nat → Prop} {Lst : List (Nat × Blk)} {nb f : Nat} {xs : List AV} {todo : List Nat} {u : List (Nat × Blk)} {vs : List Value} (hL : L = lkB Lst)
    (ho : evCallH C L nb f xs todo = some (v', u, p)) (hp : p) (hh : HeapOK w ok L φ) (hl : vs.length = xs.length)
    (hr : ∀ (i : Nat) (a : AV) (v : Value), xs[i]? = some a → vs[i]? = some v → R w ok L φ a v) :
    CallsX P f vs w fun e w' => ∃ v ok' φ', e = .returned v ∧ Ext w0 X L ok φ w (lkB (u ++ Lst)) ok' φ' w' ∧ R w' ok' (lkB (u ++ Lst)) φ' v' v := by
  unfold evCallH at ho
  generalize reach L 16 todo [] = ids at ho
  unfold callHi callHa at ho
  split at ho
  · rename_i ys V q hpur
    unfold callHb at ho
    split at ho
    · rename_i E' res p' hc
      simp only [Option.some.injEq, Prod.mk.injEq] at ho
      obtain ⟨rfl, rfl, rfl⟩ := ho
      obtain ⟨hq, hp', hk, hsb, hnd, hap, hle, hfr⟩ := hp
      have hspec := hC f _ ys E' res p' hc
      obtain ⟨hdead, hnew⟩ := freshIds_spec hfr
      have hlen := sameBlks_len hsb
      have hnd' := noDup_iff hnd
      have slo : ∀ i j, ids[i]? = some j → sigH ids nb E'.length i = j := fun i j hj => by
        have hi := (List.getElem?_eq_some_iff.1 hj).1
        simp [sigH, hi, hj, List.getD_eq_getElem?_getD] 
        have := (List.getElem?_eq_some_iff.1 hj).2
        simpa using this
      have live : ∀ i, i < ids.length → ∃ b, L (sigH ids nb E'.length i) = some b := fun i hi => by
        obtain ⟨j, h1, h2⟩ := sameBlks_get hsb i _ (List.getElem?_eq_getElem (by omega))
        exact ⟨_, by rw [slo i j h1]; exact h2⟩
      have shi : ∀ i, ids.length ≤ i → i < E'.length → sigH ids nb E'.length i = nb + (i - ids.length) ∧ L (nb + (i - ids.length)) = none := fun i h1 h2 => by
        refine ⟨by simp [sigH, Nat.not_lt.2 h1, h2], hnew _ (Nat.zero_le _) (by simp; omega)⟩
      have hs : Hands L (handE L ids ids) (sigH ids nb E'.length) V E'.length := by
        refine ⟨fun i b hb => ?_, fun i hi => ?_, fun i j hi hj e => ?_, by omega⟩
        · obtain ⟨j, h1, h2⟩ := sameBlks_get hsb i b hb
          rw [slo i j h1]
          exact ⟨h2, fun hm => apartIds_iff hap j hm (List.mem_of_getElem? h1)⟩
        · by_cases hlt : i < E'.length
          · obtain ⟨h1, h2⟩ := shi i (by omega) hlt
            rw [h1]; exact h2
          · simp only [sigH, if_neg (show ¬ i < ids.length by omega), if_neg hlt]; exact hdead
        · rcases Nat.lt_or_ge i ids.length with h1 | h1 <;> rcases Nat.lt_or_ge j ids.length with h2 | h2
          · have e1 := slo i ids[i] (List.getElem?_eq_getElem h1)
            have e2 := slo j ids[j] (List.getElem?_eq_getElem h2)
            rw [e1, e2] at e
            exact (List.getElem_inj hnd').1 e
          · obtain ⟨b, hb⟩ := live i h1
            obtain ⟨h3, h4⟩ := shi j h2 hj
            rw [e, h3, h4] at hb; cases hb
          · obtain ⟨b, hb⟩ := live j h2
            obtain ⟨h3, h4⟩ := shi i h1 hi
            rw [← e, h3, h4] at hb; cases hb
          · obtain ⟨h3, _⟩ := shi i h1 hi
            obtain ⟨h4, _⟩ := shi j h2 hj
            rw [h3, h4] at e; omega
      obtain ⟨g1, g2⟩ := hpL_ok (E := handE L ids ids) (σ := sigH ids nb E'.length) (m := E'.length) (V' := V) hh hpur hq hk (fun _ h => h) hs hl hr
      refine (hspec hp' w (fun b o => ok b o ∨ Seen L φ V b o) (fun i => φ (sigH ids nb E'.length i)) vs (hh.callee hs) g1 g2).mono ?_
      rintro e w' ⟨v, ok', φ', rfl, post⟩
      obtain ⟨g1, g2⟩ := Ext.call (w0 := w0) (X := X) hh hs post
      have hfun : afterL L (sigH ids nb E'.length) V E' = lkB (newBlks (sigH ids nb E'.length) E' 0 ++ (marks L V ++ Lst)) := by
        funext j
        rw [newBlks_lk (sigH ids nb E'.length) j (marks L V ++ Lst) E' 0 (fun a b _ h1 _ h2 e => hs.inj a b (by omega) (by omega) e), marks_lk Lst hL j V]
        simp only [afterL, List.range_eq_range', Nat.sub_zero]
        try rfl
      rw [hfun] at g1 g2
      rw [List.append_assoc]
      exact ⟨v, ok', _, rfl, g1, g2⟩
    · simp at ho
  · simp at ho

theorem evCallP_ok {C : Tbl} (hC : TblOK P C) {w0 : World} {X : Nat → Prop} {Lst : List (Nat × Blk)} {id f : Nat} {xs : List AV} {u : List (Nat × Blk)} {vs : List Value} (hL : L = lkB Lst)
    (ho : evCallP C L id f xs = some (v', u, p)) (hp : p) (hh : HeapOK w ok L φ) (hl : vs.length = xs.length)
    (hr : ∀ (i : Nat) (a : AV) (v : Value), xs[i]? = some a → vs[i]? = some v → R w ok L φ a v) :
    CallsX P f vs w fun e w' => ∃ v ok' φ', e = .returned v ∧ Ext w0 X L ok φ w (lkB (u ++ Lst)) ok' φ' w' ∧ R w' ok' (lkB (u ++ Lst)) φ' v' v := by
  unfold evCallP orH at ho
  split at ho
  · rename_i r h1
    simp only [Option.some.injEq] at ho
    subst ho
    exact evCall1_ok hC hL h1 hp hh hl hr
  · replace ho : @orH (evCallH C L id f xs (midsL xs)) ⟨evCallH C L id f xs (pidsL xs)⟩ = some (v', u, p) := ho
    unfold orH at ho
    split at ho
    · rename_i r h1
      simp only [Option.some.injEq] at ho
      subst ho
      exact evCallH_ok hC hL h1 hp hh hl hr
    · exact evCallH_ok hC hL ho hp hh hl hr
end
end Go.Abs
