/- The operations that read no memory, abstractly, and that they are so. No condition. -/
import Derived.Test.YtlkfjkimnkhelaaDoorAbsA
set_option linter.unusedVariables false
set_option linter.unusedSimpArgs false
namespace Go.Abs

def AV.un : AV → AV
  | .cond _ v => v
  | v => v
def isT (e : Bool) : Prop := e = true
def gimp (e : Bool) (p : Prop) : Prop := e = true → p
def impB (e f : Bool) : Prop := e = true → f = true
theorem isT_true : isT true = True := by simp [isT]
theorem gimp_T {e : Bool} : gimp e True = True := by simp [gimp]
theorem gimp_t {p : Prop} : gimp true p = p := by simp [gimp]
theorem gimp_f {p : Prop} : gimp false p = True := by simp [gimp]
theorem gimp_and {e : Bool} {p q : Prop} : gimp e (p ∧ q) = (gimp e p ∧ gimp e q) := by
  simp only [gimp]; exact propext ⟨fun h => ⟨fun he => (h he).1, fun he => (h he).2⟩, fun h he => ⟨h.1 he, h.2 he⟩⟩
theorem gimp_isT {e f : Bool} : gimp e (isT f) = impB e f := rfl
theorem gimp_gimp {e f : Bool} {p : Prop} : gimp e (gimp f p) = gimp (e && f) p := by cases e <;> cases f <;> simp [gimp]
theorem gimp_impB {e f g : Bool} : gimp e (impB f g) = impB (e && f) g := by cases e <;> cases f <;> simp [gimp, impB]
theorem impB_self {e : Bool} : impB e e = True := by simp [impB]
theorem impB_T {e : Bool} : impB e true = True := by simp [impB]
theorem impB_t {e : Bool} : impB true e = isT e := by simp [impB, isT]
theorem impB_f {e : Bool} : impB false e = True := by simp [impB]
theorem impB_and {e a b : Bool} : impB e (a && b) = (impB e a ∧ impB e b) := by cases e <;> cases a <;> cases b <;> simp [impB]
theorem impB_l {a b e : Bool} (h : impB a e = True) : impB (a && b) e = True := by
  have h : impB a e := by rw [h]; trivial
  exact eq_true fun hab => h (by simp at hab; exact hab.1)
theorem impB_r {a b e : Bool} (h : impB b e = True) : impB (a && b) e = True := by
  have h : impB b e := by rw [h]; trivial
  exact eq_true fun hab => h (by simp at hab; exact hab.2)
theorem impB_nl {a b e : Bool} (h : impB (!a) e = True) : impB (!(a || b)) e = True := by
  have h : impB (!a) e := by rw [h]; trivial
  exact eq_true fun hab => h (by simp at hab; simp [hab.1])
theorem impB_nr {a b e : Bool} (h : impB (!b) e = True) : impB (!(a || b)) e = True := by
  have h : impB (!b) e := by rw [h]; trivial
  exact eq_true fun hab => h (by simp at hab; simp [hab.2])
def AV.uc : AV → Prop
  | .cond e _ => isT e
  | _ => True

theorem R.un {w ok L φ a v} (h : R w ok L φ a v) (hu : a.uc) : R w ok L φ a.un v := by
  cases a <;> try exact h
  rename_i e a
  simp only [AV.uc, isT] at hu
  subst hu
  cases h with
  | pure _ _ h => cases h with | condT _ _ h => exact .pure _ _ h
  | condT _ _ h => exact h

/-- A value of one cell, whatever it stands for. -/
def AV.one : AV → Bool
  | .bool _ | .int _ _ | .str _ | .list _ _ | .radr _ | .nils | .nil0 | .nilp | .nili | .nilf | .ref .. | .ptr .. | .it _ | .yld _ | .clo .. => true
  | _ => false

theorem R.one {w ok L φ a v} (h : R w ok L φ a v) (ho : a.one = true) : v.oneCell' = true ∧ v.cells = #[v] := by
  cases h with
  | pure _ _ h => cases h <;> simp [AV.one] at ho <;> simp [Value.oneCell', Value.cells]
  | ref => simp [Value.oneCell', Value.cells]
  | ptr => simp [Value.oneCell', Value.cells]
  | it => simp [Value.oneCell', Value.cells]
  | yld => simp [Value.oneCell', Value.cells]
  | agg => simp [AV.one] at ho
  | tuple => simp [AV.one] at ho
  | clo => simp [Value.oneCell', Value.cells]
  | condT => simp [AV.one] at ho

/-- A value whose cells are counted. -/
def AV.shaped : AV → Bool
  | .any | .cond .. | .own .. => false
  | _ => true

theorem R.cells {w ok L φ a v} (h : R w ok L φ a v) (ho : a.shaped = true) : ∃ vs : List Value, v.cells = vs.toArray ∧ vs.length = a.cells.length ∧ (∀ (i : Nat) (x : AV) (u : Value), a.cells[i]? = some x → vs[i]? = some u → R w ok L φ x u) := by
  have key : ∀ (x : Value), R w ok L φ a x → x.cells = #[x] → a.cells = [a] → ∃ vs : List Value, x.cells = vs.toArray ∧ vs.length = a.cells.length ∧ (∀ (i : Nat) (y : AV) (u : Value), a.cells[i]? = some y → vs[i]? = some u → R w ok L φ y u) := by
    intro x hx h1 h2
    refine ⟨[x], h1, by rw [h2]; rfl, ?_⟩
    intro i y u hy hu
    rw [h2] at hy
    cases i with
    | zero => simp at hy hu; subst hy; subst hu; exact hx
    | succ n => simp at hy
  cases hh : h with
  | pure _ _ hp =>
    cases hp with
    | agg cs vs hl h1 h2 => exact ⟨vs, rfl, hl, fun i x u hx hu => .pure _ _ (h2 i x u hx hu)⟩
    | any => simp [AV.shaped] at ho
    | condT => simp [AV.shaped] at ho
    | condF => simp [AV.shaped] at ho
    | _ => exact key _ h rfl rfl
  | agg cs vs hl h1 h2 => exact ⟨vs, rfl, hl, h2⟩
  | condT => simp [AV.shaped] at ho
  | _ => exact key _ h rfl rfl

def inR : IntKind → Int → Prop
  | .i8, n => -128 ≤ n ∧ n ≤ 127
  | .i16, n => -32768 ≤ n ∧ n ≤ 32767
  | .i32, n => -2147483648 ≤ n ∧ n ≤ 2147483647
  | .i64, n => -9223372036854775808 ≤ n ∧ n ≤ 9223372036854775807
  | .u8, n => 0 ≤ n ∧ n ≤ 255
  | .u16, n => 0 ≤ n ∧ n ≤ 65535
  | .u32, n => 0 ≤ n ∧ n ≤ 4294967295
  | .u64, n => 0 ≤ n ∧ n ≤ 18446744073709551615

theorem wrap_inR {k : IntKind} {n : Int} (h : inR k n) : k.wrap n = n := by
  cases k <;> simp only [inR] at h <;> simp [IntKind.wrap, IntKind.bits, IntKind.signed] <;> omega

def arithV (wr : Bool) (k : IntKind) (n : Int) : AV :=
  match wr with
  | true => .int k (k.wrap n)
  | false => .int k n
def arithP (wr : Bool) (k : IntKind) (n : Int) : Prop :=
  match wr with
  | true => True
  | false => inR k n

theorem arith_ok {wr k n} (hp : arithP wr k n) : arithV wr k n = .int k (k.wrap n) := by
  cases wr
  · simp only [arithV, arithP] at hp ⊢; rw [wrap_inR hp]
  · rfl

def isBoolT (P : Program) (t : TypeId) : Bool := match P.underlying t with | some .bool => true | _ => false

def maxInt : Nat := 9223372036854775807

def evBin (P : Program) (wr : Bool) (op : BinOp) (t : TypeId) : AV → AV → Option (AV × Prop)
  | .int k a, .int k' b =>
    if k = k' then
      match op with
      | .add => some (arithV wr k (a + b), arithP wr k (a + b))
      | .sub => some (arithV wr k (a - b), arithP wr k (a - b))
      | .mul => some (arithV wr k (a * b), arithP wr k (a * b))
      | .quo => some (arithV wr k (a.tdiv b), b ≠ 0 ∧ arithP wr k (a.tdiv b))
      | .rem => some (.int k (a.tmod b), b ≠ 0)
      | .eql => some (.bool (decide (a = b)), True)
      | .neq => some (.bool (!decide (a = b)), True)
      | .lss => some (.bool (decide (a < b)), True)
      | .leq => some (.bool (decide (a ≤ b)), True)
      | .gtr => some (.bool (decide (b < a)), True)
      | .geq => some (.bool (decide (b ≤ a)), True)
      | _ => none
    else none
  | .str a, .str b =>
    match op with
    | .add => some (.str (a ++ b), a.length + b.length ≤ maxInt)
    | .eql => some (.bool (decide (a = b)), True)
    | .neq => some (.bool (!decide (a = b)), True)
    | .lss => some (.bool (Op.bytesLess a b), True)
    | .leq => some (.bool (Op.bytesLess a b || decide (a = b)), True)
    | .gtr => some (.bool (!(Op.bytesLess a b || decide (a = b))), True)
    | .geq => some (.bool (!Op.bytesLess a b), True)
    | _ => none
  | .bool a, .bool b =>
    if isBoolT P t then
      match op with
      | .eql => some (.bool (a == b), True)
      | .neq => some (.bool (a != b), True)
      | _ => none
    else none
  | _, _ => none

theorem run_equalIn_bool {P : Program} {w : World} (d : Nat) {t : TypeId} (hu : P.underlying t = some .bool) (a b : Bool) :
    (Op.equalIn (d + 1) t (.bool a) (.bool b)).run P w = .ok (a == b) w := by
  simp [Op.equalIn, run_underlying hu]
theorem run_equal_bool {P : Program} {w : World} {t : TypeId} (hu : P.underlying t = some .bool) (a b : Bool) :
    (Op.equal t (.bool a) (.bool b)).run P w = .ok (a == b) w := run_equalIn_bool 9999 hu a b

theorem evBin_ok {P wr op t x y v' p w ok L φ vx vy ox oy} (h : evBin P wr op t x y = some (v', p)) (hp : p) (hx : R w ok L φ x vx) (hy : R w ok L φ y vy) :
    ∃ v, ((do eqGuard op t ox oy vx vy; binOp op t vx vy) : Sem Value).run P w = .ok v w ∧ R w ok L φ v' v := by
  unfold evBin at h
  split at h
  · rename_i k a k' b
    obtain rfl : vx = .int k a := by cases hx with | pure _ _ hx => cases hx; rfl
    obtain rfl : vy = .int k' b := by cases hy with | pure _ _ hy => cases hy; rfl
    split at h
    · rename_i hk
      subst hk
      split at h <;> simp only [Option.some.injEq, reduceCtorEq, Prod.mk.injEq] at h
      · obtain ⟨rfl, rfl⟩ := h
        exact ⟨.int k (k.wrap (a + b)), by simp [eqGuard, binOp, Op.intArith], by rw [arith_ok hp]; exact .pure _ _ (.int _ _)⟩
      · obtain ⟨rfl, rfl⟩ := h
        exact ⟨.int k (k.wrap (a - b)), by simp [eqGuard, binOp, Op.intArith], by rw [arith_ok hp]; exact .pure _ _ (.int _ _)⟩
      · obtain ⟨rfl, rfl⟩ := h
        exact ⟨.int k (k.wrap (a * b)), by simp [eqGuard, binOp, Op.intArith], by rw [arith_ok hp]; exact .pure _ _ (.int _ _)⟩
      · obtain ⟨rfl, rfl⟩ := h
        exact ⟨.int k (k.wrap (a.tdiv b)), by simp [eqGuard, binOp, Op.intDiv, hp.1], by rw [arith_ok hp.2]; exact .pure _ _ (.int _ _)⟩
      · obtain ⟨rfl, rfl⟩ := h
        exact ⟨.int k (a.tmod b), by simp [eqGuard, binOp, Op.intDiv, hp], .pure _ _ (.int _ _)⟩
      all_goals obtain ⟨rfl, rfl⟩ := h
      all_goals refine ⟨_, ?_, .pure _ _ (.bool _)⟩
      all_goals simp [eqGuard, binOp, Op.intCmp]
      all_goals (first | rfl | (rw [Bool.eq_iff_iff]; simp))
    · simp at h
  · rename_i a b
    obtain rfl : vx = .string ⟨a.toArray⟩ := by cases hx with | pure _ _ hx => cases hx; rfl
    obtain rfl : vy = .string ⟨b.toArray⟩ := by cases hy with | pure _ _ hy => cases hy; rfl
    have hap : (ByteArray.mk a.toArray ++ ByteArray.mk b.toArray) = ⟨(a ++ b).toArray⟩ := by
      apply ByteArray.ext; simp
    have hs1 : (ByteArray.mk a.toArray).size = a.length := by simp [ByteArray.size]
    have hs2 : (ByteArray.mk b.toArray).size = b.length := by simp [ByteArray.size]
    split at h <;> simp only [Option.some.injEq, reduceCtorEq, Prod.mk.injEq] at h
    · obtain ⟨rfl, rfl⟩ := h
      refine ⟨.string ⟨(a ++ b).toArray⟩, ?_, .pure _ _ (.str _)⟩
      have hn : ¬ (IntKind.i64.max < ((a.length + b.length : Nat) : Int)) := by simp only [maxInt] at hp; simp [IntKind.max, IntKind.bits, IntKind.signed]; omega
      simp only [Int.natCast_add] at hn
      simp [eqGuard, binOp, Op.stringOp, hap, hs1, hs2]
      simp only [IntKind.max, IntKind.bits, IntKind.signed] at hn ⊢; simp at hn ⊢; omega
    all_goals obtain ⟨rfl, rfl⟩ := h
    all_goals refine ⟨_, ?_, .pure _ _ (.bool _)⟩
    all_goals simp [eqGuard, binOp, Op.stringOp]
    all_goals (first | rfl | (rw [Bool.eq_iff_iff]; simp))
  · rename_i a b
    obtain rfl : vx = .bool a := by cases hx with | pure _ _ hx => cases hx; rfl
    obtain rfl : vy = .bool b := by cases hy with | pure _ _ hy => cases hy; rfl
    split at h
    · rename_i hb
      have hu : P.underlying t = some .bool := by
        unfold isBoolT at hb
        split at hb
        · assumption
        · simp at hb
      split at h <;> simp only [Option.some.injEq, reduceCtorEq, Prod.mk.injEq] at h
      all_goals obtain ⟨rfl, rfl⟩ := h
      all_goals refine ⟨_, ?_, .pure _ _ (.bool _)⟩
      all_goals simp [eqGuard, binOp, run_equal_bool hu, bne]
    · simp at h
  · simp at h

/-! ### Types, as the evaluator asks for them -/
def szT (P : Program) (t : TypeId) : Option Nat := (P.info? t).map (·.size)
def byT (P : Program) (t : TypeId) : Option Nat := (P.info? t).map (·.bytes)
def AV.ofZero : Value → AV
  | .agg cs => .agg (cs.toList.map AV.ofVal)
  | v => .ofVal v
def zT (P : Program) (t : TypeId) : Option AV := ((P.info? t).bind (·.zero)).map AV.ofZero
def aggT (P : Program) (t : TypeId) : Option Bool := (P.underlying t).map fun d => match d with | .struct _ | .array _ _ => true | _ => false
def oneT (P : Program) (t : TypeId) : Bool := match zT P t with | some z => z.cells.all AV.one | none => false

theorem run_sizeOf' {P : Program} {w : World} {t : TypeId} {n : Nat} (h : szT P t = some n) : (sizeOf t).run P w = .ok n w := by
  unfold szT at h
  simp only [Option.map_eq_some_iff] at h
  obtain ⟨i, hi, rfl⟩ := h
  simp [sizeOf, typeInfo, hi]
theorem run_isAgg' {P : Program} {w : World} {t : TypeId} {b : Bool} (h : aggT P t = some b) : (isAgg t).run P w = .ok b w := by
  unfold aggT at h
  simp only [Option.map_eq_some_iff] at h
  obtain ⟨d, hd, rfl⟩ := h
  cases d <;> simp [isAgg, run_underlying hd]
theorem Rp_ofZero (w : World) (ok : Nat → Nat → Prop) (v : Value) (h : ∀ (i : Nat) (u : Value), v.cells[i]? = some u → u.oneCell' = true) : Rp w ok (.ofZero v) v := by
  unfold AV.ofZero
  split
  · rename_i cs
    have := Rp.agg (w := w) (ok := ok) (cs.toList.map AV.ofVal) cs.toList (by simp) (fun i u hu => h i u (by simpa [Value.cells] using hu)) (fun i a u ha hu => by
      simp only [List.getElem?_map, hu, Option.map_some, Option.some.injEq] at ha
      subst ha; exact Rp_ofVal w ok u)
    simpa using this
  · exact Rp_ofVal w ok v

def evUn (wr : Bool) (op : UnOp) : AV → Option (AV × Prop)
  | .bool b => match op with | .not => some (.bool (!b), True) | _ => none
  | .int k n => match op with | .neg => some (arithV wr k (0 - n), arithP wr k (0 - n)) | _ => none
  | _ => none

theorem evUn_ok {P wr op x v' p w ok L φ vx} (h : evUn wr op x = some (v', p)) (hp : p) (hx : R w ok L φ x vx) :
    ∃ v, (Op.unary op vx).run P w = .ok v w ∧ R w ok L φ v' v := by
  unfold evUn at h
  split at h
  · rename_i b
    obtain rfl : vx = .bool b := by cases hx with | pure _ _ hx => cases hx; rfl
    split at h <;> simp only [Option.some.injEq, reduceCtorEq, Prod.mk.injEq] at h
    obtain ⟨rfl, rfl⟩ := h
    exact ⟨_, by simp [Op.unary], .pure _ _ (.bool _)⟩
  · rename_i k n
    obtain rfl : vx = .int k n := by cases hx with | pure _ _ hx => cases hx; rfl
    split at h <;> simp only [Option.some.injEq, reduceCtorEq, Prod.mk.injEq] at h
    obtain ⟨rfl, rfl⟩ := h
    exact ⟨.int k (k.wrap (0 - n)), by simp [Op.unary, Op.intArith], by rw [arith_ok hp]; exact .pure _ _ (.int _ _)⟩
  · simp at h

def evConv (P : Program) (wr : Bool) (src dst : TypeId) (x : AV) : Option (AV × Prop) :=
  match P.underlying src, P.underlying dst with
  | some _, some (.int k) => match x with | .int _ n => some (arithV wr k n, arithP wr k n) | _ => none
  | some _, some .string => match x with
    | .int _ n => some (.str (Utf8.encode n).data.toList, True)
    | .str s => some (.str s, True)
    | _ => none
  | _, _ => none

theorem evConv_ok {P wr src dst x v' p w ok L φ vx} (h : evConv P wr src dst x = some (v', p)) (hp : p) (hx : R w ok L φ x vx) :
    ∃ v, (convert src dst vx).run P w = .ok v w ∧ R w ok L φ v' v := by
  unfold evConv at h
  split at h
  · rename_i d k hs hd
    split at h <;> simp only [Option.some.injEq, reduceCtorEq, Prod.mk.injEq] at h
    rename_i k' n
    obtain ⟨rfl, rfl⟩ := h
    obtain rfl : vx = .int k' n := by cases hx with | pure _ _ hx => cases hx; rfl
    refine ⟨.int k (k.wrap n), ?_, by rw [arith_ok hp]; exact .pure _ _ (.int _ _)⟩
    cases d <;> simp [convert, run_underlying hs, run_underlying hd, Conv.intToInt]
  · rename_i d hs hd
    split at h <;> simp only [Option.some.injEq, reduceCtorEq, Prod.mk.injEq] at h
    · rename_i k' n
      obtain ⟨rfl, rfl⟩ := h
      obtain rfl : vx = .int k' n := by cases hx with | pure _ _ hx => cases hx; rfl
      refine ⟨.string (Utf8.encode n), ?_, ?_⟩
      · cases d <;> simp [convert, run_underlying hs, run_underlying hd, Conv.intToString]
      · have := Rp.str (w := w) (ok := ok) (Utf8.encode n).data.toList
        exact .pure _ _ (by simpa using this)
    · rename_i s
      obtain ⟨rfl, rfl⟩ := h
      obtain rfl : vx = .string ⟨s.toArray⟩ := by cases hx with | pure _ _ hx => cases hx; rfl
      refine ⟨.string ⟨s.toArray⟩, ?_, .pure _ _ (.str _)⟩
      cases d <;> simp [convert, run_underlying hs, run_underlying hd]
  · simp at h

def evExtract (x : AV) (i : Nat) : Option (AV × Prop) :=
  match x with
  | .tuple vs => (vs[i]?).map fun v => (v, True)
  | .nxt more p r => match i with
    | 0 => some (.bool more, True)
    | 1 => some (.int .i64 p, more = true)
    | 2 => some (.int .i32 r, more = true)
    | _ => none
  | _ => none

theorem evExtract_ok {P x i v' p w ok L φ vx} (h : evExtract x i = some (v', p)) (hp : p) (hx : R w ok L φ x vx) :
    ∃ v, (Instr.extract vx i).run P w = .ok v w ∧ R w ok L φ v' v := by
  unfold evExtract at h
  split at h
  · rename_i vs
    simp only [Option.map_eq_some_iff, Prod.mk.injEq] at h
    obtain ⟨a, ha, rfl, rfl⟩ := h
    have hlt := (List.getElem?_eq_some_iff.1 ha).1
    cases hx with
    | pure _ _ hx =>
      cases hx with
      | tuple _ us hl h1 =>
        have hu : us[i]? = some us[i] := by simp
        refine ⟨us[i], by simp [Instr.extract, hu], .pure _ _ (h1 i _ _ ha hu)⟩
    | tuple _ us hl h1 =>
      have hu : us[i]? = some us[i] := by simp
      refine ⟨us[i], by simp [Instr.extract, hu], h1 i _ _ ha hu⟩
  · rename_i more q r
    cases hx with
    | pure _ _ hx =>
      split at h <;> simp only [Option.some.injEq, reduceCtorEq, Prod.mk.injEq] at h <;> obtain ⟨rfl, rfl⟩ := h
      · cases hx
        · exact ⟨_, by simp [Instr.extract], .pure _ _ (.bool _)⟩
        · exact ⟨_, by simp [Instr.extract], .pure _ _ (.bool _)⟩
      · subst hp; cases hx; exact ⟨_, by simp [Instr.extract], .pure _ _ (.int _ _)⟩
      · subst hp; cases hx; exact ⟨_, by simp [Instr.extract], .pure _ _ (.int _ _)⟩
  · simp at h
end Go.Abs
