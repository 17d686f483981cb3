/- The evaluator, as the simplifier likes it: code and what lies behind it stand where it does not go. No condition. -/
import Derived.Test.YtlkfjkimnkhelaaDoorAbsQ
set_option linter.unusedVariables false
set_option linter.unusedSimpArgs false
namespace Go.Abs

def kseq (K : St → Prop) (Q : Ex → St → Prop) : Ex → St → Prop
  | .normal, s => K s
  | .exit i, s => Q (.exit i) s
  | .ret, s => Q .ret s
def kcut {X : Type} (m : Nat) (emb : X → St) (I : X → Prop) (Q : Ex → St → Prop) : Ex → St → Prop
  | .normal, s => ∃ x, WeakE m s (emb x) ∧ I x
  | .exit i, s => Q (.exit i) s
  | .ret, s => Q .ret s
def kblk (id : Nat) (Q : Ex → St → Prop) : Ex → St → Prop
  | .normal, s => Q .normal s
  | .exit i, s => if i = id then Q .normal s else Q (.exit i) s
  | .ret, s => Q .ret s

abbrev HQ := Hold (Ex → St → Prop)
abbrev HK := Hold (St → Prop)
abbrev HD := Hold (Nat → List Nat)
abbrev HU := Hold (Nat → Option CutS)

/-- One operation. -/
def VP (P : Program) (C : Tbl) (wr : Bool) (st : St) [all : Hold (List Oper)] [o : Hold Oper] [K : HK] : Prop := Wop P C wr all.v o.v st K.v
def VPQ (P : Program) (C : Tbl) (wr : Bool) (st : St) [all : Hold (List Oper)] [o : Hold Oper] [K : HK] : Prop := WopQ P C wr all.v o.v st K.v
def VO (P : Program) (C : Tbl) (wr : Bool) (st : St) [all : Hold (List Oper)] [l : Hold (List Oper)] [K : HK] : Prop := Wops P C wr all.v l.v st K.v
def sameH (l : List Nat) [s : Hold St] [t : Hold St] : Prop := sameAt s.v t.v l
def loadH (C : Tbl) (l : List Nat) [op : Hold Op] [st : Hold St] : Prop := loadC C op.v st.v l
def isBlk (B : Nat) (v : AV) : Prop := onB B v
theorem sameH_nil {s t} : @sameH [] ⟨s⟩ ⟨t⟩ = True := rfl
theorem sameH_cons {B l s t} : @sameH (B :: l) ⟨s⟩ ⟨t⟩ = (s.lk B = t.lk B ∧ @sameH l ⟨s⟩ ⟨t⟩) := rfl
theorem loadH_nil {C op st} : @loadH C [] ⟨op⟩ ⟨st⟩ = True := rfl
theorem loadH_call {C B l g args ats st} : @loadH C (B :: l) ⟨.call ⟨.value g, args, ats⟩⟩ ⟨st⟩ = (callNF C (args.toList.map (fun x => (st.ev x).un)) (st.ev g).un ∧ @loadH C l ⟨.call ⟨.value g, args, ats⟩⟩ ⟨st⟩) := rfl
theorem loadH_load {C B l t p st} : @loadH C (B :: l) ⟨.load t (.tmp p)⟩ ⟨st⟩ = (isBlk B (st.get p) ∧ @loadH C l ⟨.load t (.tmp p)⟩ ⟨st⟩) := rfl
theorem loadH_ia {C B l t p i st} : @loadH C (B :: l) ⟨.indexAddr t (.tmp p) i⟩ ⟨st⟩ = (isBlk B (st.get p) ∧ @loadH C l ⟨.indexAddr t (.tmp p) i⟩ ⟨st⟩) := rfl
theorem isBlk_ptr {B id i j hw} : isBlk B (.ptr id i j hw) = (id = B) := by simp [isBlk, onB, AV.un]
theorem isBlk_ref {B id i j hw} : isBlk B (.ref id i j hw) = (id = B) := by simp [isBlk, onB, AV.un]
theorem isBlk_cptr {B e id i j hw} : isBlk B (.cond e (.ptr id i j hw)) = (id = B) := by simp [isBlk, onB, AV.un]
theorem isBlk_cref {B e id i j hw} : isBlk B (.cond e (.ref id i j hw)) = (id = B) := by simp [isBlk, onB, AV.un]
theorem isBlk_list {B sz l} : isBlk B (.list sz l) = True := by simp [isBlk, onB, AV.un]
theorem isBlk_radr {B l} : isBlk B (.radr l) = True := by simp [isBlk, onB, AV.un]
theorem isBlk_clist {B e sz l} : isBlk B (.cond e (.list sz l)) = True := by simp [isBlk, onB, AV.un]
theorem isBlk_cradr {B e l} : isBlk B (.cond e (.radr l)) = True := by simp [isBlk, onB, AV.un]
theorem loadH_sl {C B l t p lo hi mx st} : @loadH C (B :: l) ⟨.slice t (.tmp p) lo hi mx⟩ ⟨st⟩ = (isBlk B (st.get p) ∧ @loadH C l ⟨.slice t (.tmp p) lo hi mx⟩ ⟨st⟩) := rfl
theorem loadH_len {C B l p ats st} : @loadH C (B :: l) ⟨.call ⟨.builtin .len, #[.tmp p], ats⟩⟩ ⟨st⟩ = (isBlk B (st.get p) ∧ @loadH C l ⟨.call ⟨.builtin .len, #[.tmp p], ats⟩⟩ ⟨st⟩) := rfl
theorem codesOf_nil {k} : codesOf [] k = [] := rfl
theorem codesOf_cons {c r k} : codesOf (c :: r) k = bif c / 10000 == k + 1 then c % 10000 :: codesOf r k else codesOf r k := by
  simp only [codesOf]; cases c / 10000 == k + 1 <;> rfl
def VD (P : Program) (C : Tbl) (wr : Bool) (ser : List Nat) (k : Nat) (st : St) [all : Hold (List Oper)] [l : Hold (List Oper)] [K : HK] : Prop := WopsD P C wr all.v ser l.v k st K.v
def V (P : Program) (C : Tbl) (wr : Bool) (m : Nat) (st : St) [D : HD] [U : HU] [c : Hold Code] [Q : HQ] : Prop := W P C wr D.v U.v m c.v st Q.v
def VR (P : Program) (C : Tbl) (m : Nat) (st : St) (g : Operand) (ps : Array Tmp) [D : HD] [A : Hold Code] [B : Hold Code] [Q : HQ] : Prop := WR P C D.v m g ps A.v B.v st Q.v
def VL (P : Program) (C : Tbl) (wr : Bool) (m : Nat) (st : St) [D : HD] [U : HU] [c : Hold Code] [Q : HQ] : Prop := W P C wr D.v U.v m (.loop c.v) st Q.v

/-! what the simplifier shall not look into before it knows the way -/
abbrev StepR := Option (AV × List (Nat × Blk) × Prop)
def stepP (r : StepR) (st : St) (dst : Option Nat) (uc : Prop) [K : HK] : Prop :=
  match r with
  | some (v, u, p) => uc ∧ p ∧ K.v ((st.upd u).put dst v)
  | none => False
def stepQ (r : StepR) (st : St) (dst : Option Nat) (uc : Prop) [K : HK] : Prop :=
  match r with
  | some (v, [], p) => uc ∧ p ∧ K.v (st.put dst v)
  | _ => False
def grdP (g : Option Bool) (r : StepR) (st : St) (dst : Option Nat) (uc : Prop) [K : HK] : Prop :=
  match g with
  | some e => match r with
    | some (v, [], p) => gimp e (uc ∧ p) ∧ K.v (st.put dst (.cond e v))
    | some (v, u, p) => (e = true → uc ∧ p ∧ K.v ((st.upd u).put dst (.cond true v))) ∧ (e = false → K.v (st.put dst (.cond false .any)))
    | none => e = false ∧ K.v (st.put dst (.cond false .any))
  | none => False
def grdQ (g : Option Bool) (r : StepR) (st : St) (dst : Option Nat) (uc : Prop) [K : HK] : Prop :=
  match g with
  | some e => match r with
    | some (v, [], p) => gimp e (uc ∧ p) ∧ K.v (st.put dst (.cond e v))
    | some _ => False
    | none => e = false ∧ K.v (st.put dst (.cond false .any))
  | none => False
def cndP (v : AV) (uc : Prop) [A : Hold Prop] [B : Hold Prop] : Prop :=
  match v with
  | .bool b => uc ∧ (b = true → A.v) ∧ (b = false → B.v)
  | .own _ l => uc ∧ (l = [] → A.v) ∧ B.v
  | _ => False
def serP (b : Bool) [A : Hold Prop] [B : Hold Prop] : Prop :=
  match b with
  | true => A.v
  | false => B.v
theorem stepP_some {v u p st dst uc K} : @stepP (some (v, u, p)) st dst uc ⟨K⟩ = (uc ∧ p ∧ K ((st.upd u).put dst v)) := rfl
theorem stepQ_some {v p st dst uc K} : @stepQ (some (v, [], p)) st dst uc ⟨K⟩ = (uc ∧ p ∧ K (st.put dst v)) := rfl
theorem grdP_nil {e v p st dst uc K} : @grdP (some e) (some (v, [], p)) st dst uc ⟨K⟩ = (gimp e (uc ∧ p) ∧ K (st.put dst (.cond e v))) := rfl
theorem grdP_cons {e v x u p st dst uc K} : @grdP (some e) (some (v, x :: u, p)) st dst uc ⟨K⟩ = ((e = true → uc ∧ p ∧ K ((st.upd (x :: u)).put dst (.cond true v))) ∧ (e = false → K (st.put dst (.cond false .any)))) := rfl
theorem grdP_none {e st dst uc K} : @grdP (some e) none st dst uc ⟨K⟩ = (e = false ∧ K (st.put dst (.cond false .any))) := rfl
theorem grdQ_nil {e v p st dst uc K} : @grdQ (some e) (some (v, [], p)) st dst uc ⟨K⟩ = (gimp e (uc ∧ p) ∧ K (st.put dst (.cond e v))) := rfl
theorem grdQ_none {e st dst uc K} : @grdQ (some e) none st dst uc ⟨K⟩ = (e = false ∧ K (st.put dst (.cond false .any))) := rfl
theorem cndP_bool {b uc A B} : @cndP (.bool b) uc ⟨A⟩ ⟨B⟩ = (uc ∧ (b = true → A) ∧ (b = false → B)) := rfl
theorem cndP_own {sz l uc A B} : @cndP (.own sz l) uc ⟨A⟩ ⟨B⟩ = (uc ∧ (l = [] → A) ∧ B) := rfl
theorem serP_true {A B} : @serP true ⟨A⟩ ⟨B⟩ = A := rfl
theorem serP_false {A B} : @serP false ⟨A⟩ ⟨B⟩ = B := rfl

def wrapP (r : Option (AV × Prop)) : StepR := match r with | some (v, p) => some (v, [], p) | none => none
def wrapE (r : Option (AV × Nat × Blk × Prop)) : StepR := match r with | some (v, i, b, p) => some (v, [(i, b)], p) | none => none
theorem wrapP_some {v p} : wrapP (some (v, p)) = some (v, [], p) := rfl
theorem wrapE_some {v i b p} : wrapE (some (v, i, b, p)) = some (v, [(i, b)], p) := rfl
def orR (a b : StepR) : StepR := match a with | some x => some x | none => b
theorem orR_some {x b} : orR (some x) b = some x := rfl
theorem orR_none {b} : orR none b = b := rfl
theorem wrapP_none : wrapP none = none := rfl
theorem wrapE_none : wrapE none = none := rfl
section
variable {P : Program} {C : Tbl} {wr : Bool} {L : Nat → Option Blk} {dst : Option Nat} {ρ : Operand → AV}
theorem es_eq {op : Op} : evStep P C wr L dst ρ op = orR (wrapP (evPure P wr ρ op)) (orR (wrapP (evRead P L ρ op)) (orR (wrapE (evEff P L (idOf dst) ρ op)) (evCall C L (idOf dst) ρ op))) := by
  unfold evStep
  cases evPure P wr ρ op with
  | some x => rfl
  | none => cases evRead P L ρ op with
    | some x => rfl
    | none => cases evEff P L (idOf dst) ρ op with
      | some x => rfl
      | none => rfl
theorem es_pure {op : Op} (h1 : evRead P L ρ op = none) (h2 : evEff P L (idOf dst) ρ op = none) (h3 : evCall C L (idOf dst) ρ op = none) : evStep P C wr L dst ρ op = wrapP (evPure P wr ρ op) := by
  rw [es_eq, h1, h2, h3]
  cases evPure P wr ρ op <;> rfl
theorem es_move {x} : evStep P C wr L dst ρ (.move x) = some ((ρ x).un, [], True) := rfl
theorem es_assign {x} : evStep P C wr L dst ρ (.assign x) = some ((ρ x).un, [], True) := rfl
theorem es_pick {c a b} : evStep P C wr L dst ρ (.pick c a b) = wrapP (evPick (ρ c) (ρ a) (ρ b)) := es_pure rfl rfl rfl
theorem es_binOp {op t x y e} : evStep P C wr L dst ρ (.binOp op t x y e) = wrapP (evBinX P wr op t (ρ x).un (ρ y).un) := es_pure rfl rfl rfl
theorem es_unOp {op t x} : evStep P C wr L dst ρ (.unOp op t x) = wrapP (evUn wr op (ρ x).un) := es_pure rfl rfl rfl
theorem es_index {t x i} : evStep P C wr L dst ρ (.index t x i) = wrapP (evIndex P t (ρ x).un (ρ i).un) := es_pure rfl rfl rfl
theorem es_field {t x f} : evStep P C wr L dst ρ (.field t x f) = wrapP (evField P t (ρ x).un f) := es_pure rfl rfl rfl
theorem es_fieldAddr {t x f} : evStep P C wr L dst ρ (.fieldAddr t x f) = wrapP (evFieldAddr P t (ρ x).un f) := es_pure rfl rfl rfl
theorem es_extract {x i} : evStep P C wr L dst ρ (.extract x i) = wrapP (evExtract (ρ x).un i) := es_pure rfl rfl rfl
theorem es_build {t ps} : evStep P C wr L dst ρ (.build t ps) = wrapP (evBuild P t (ps.toList.map fun p => (p.1, (ρ p.2).un))) := es_pure rfl rfl rfl
theorem es_nilCheck {x} : evStep P C wr L dst ρ (.nilCheck x) = wrapP (evNilCheck (ρ x).un) := es_pure rfl rfl rfl
theorem es_makeFunc {f fst cs} : evStep P C wr L dst ρ (.makeFunc (.func f) fst cs) = wrapP (some (.clo f fst.size ((fst.toList ++ cs.toList).map fun x => (ρ x).un), True)) := es_pure rfl rfl rfl
theorem es_max {a t} : evStep P C wr L dst ρ (.call ⟨.builtin .max, a, t⟩) = wrapP (evBuiltin P .max t.toList (a.toList.map fun x => (ρ x).un)) := es_pure rfl rfl rfl
theorem es_min {a t} : evStep P C wr L dst ρ (.call ⟨.builtin .min, a, t⟩) = wrapP (evBuiltin P .min t.toList (a.toList.map fun x => (ρ x).un)) := es_pure rfl rfl rfl
theorem es_load {t x} : evStep P C wr L dst ρ (.load t x) = wrapP (rdLoad P L t (ρ x).un) := by
  rw [es_eq]
  show orR none (orR (wrapP (rdLoad P L t (ρ x).un)) (orR none none)) = _
  cases rdLoad P L t (ρ x).un <;> rfl
theorem es_indexAddr {t x i} : evStep P C wr L dst ρ (.indexAddr t x i) = orR (wrapP (evIndexAddr P t (ρ x).un (ρ i).un)) (wrapP (rdIndexAddr P L t (ρ x).un (ρ i).un)) := by
  rw [es_eq]
  show orR _ (orR (wrapP (rdIndexAddr P L t (ρ x).un (ρ i).un)) (orR none none)) = _
  cases rdIndexAddr P L t (ρ x).un (ρ i).un <;> rfl
theorem es_slice {t x lo hi mx} : evStep P C wr L dst ρ (.slice t x lo hi mx) = orR (wrapP (evSlice P t (ρ x).un (unO ρ lo) (unO ρ hi) (unO ρ mx))) (wrapP (rdSlice P L t (ρ x).un (unO ρ lo) (unO ρ hi) (unO ρ mx))) := by
  rw [es_eq]
  show orR _ (orR (wrapP (rdSlice P L t (ρ x).un (unO ρ lo) (unO ρ hi) (unO ρ mx))) (orR none none)) = _
  cases rdSlice P L t (ρ x).un (unO ρ lo) (unO ρ hi) (unO ρ mx) <;> rfl
theorem es_convert {s d x} : evStep P C wr L dst ρ (.convert s d x) = orR (wrapP (evConv P wr s d (ρ x).un)) (orR (wrapP (rdText P L s d (ρ x).un)) (wrapE (efBytes P L (idOf dst) s d (ρ x).un))) := by
  rw [es_eq]
  show orR _ (orR _ (orR (wrapE (efBytes P L (idOf dst) s d (ρ x).un)) none)) = _
  cases efBytes P L (idOf dst) s d (ρ x).un <;> rfl
theorem es_len {a t} : evStep P C wr L dst ρ (.call ⟨.builtin .len, a, t⟩) = orR (wrapP (evPure P wr ρ (.call ⟨.builtin .len, a, t⟩))) (wrapP (evRead P L ρ (.call ⟨.builtin .len, a, t⟩))) := by
  rw [es_eq]
  show orR _ (orR _ (orR none none)) = _
  cases evRead P L ρ (.call ⟨.builtin .len, a, t⟩) <;> rfl
theorem es_eff {op : Op} (h1 : evPure P wr ρ op = none) (h2 : evRead P L ρ op = none) (h3 : evCall C L (idOf dst) ρ op = none) : evStep P C wr L dst ρ op = wrapE (evEff P L (idOf dst) ρ op) := by
  rw [es_eq, h1, h2, h3]
  show orR (wrapE (evEff P L (idOf dst) ρ op)) none = _
  cases evEff P L (idOf dst) ρ op <;> rfl
theorem es_alloc {t} : evStep P C wr L dst ρ (.alloc t) = wrapE (evEff P L (idOf dst) ρ (.alloc t)) := es_eff rfl rfl rfl
theorem es_box {t x} : evStep P C wr L dst ρ (.box t x) = wrapE (efBoxed P L (idOf dst) t (ρ x).un) := es_eff rfl rfl rfl
theorem es_buildSlice {t n ps} : evStep P C wr L dst ρ (.buildSlice t n ps) = wrapE (efBuildSlice P L (idOf dst) t n (ps.toList.map fun p => (p.1, (ρ p.2).un))) := es_eff rfl rfl rfl
theorem es_makeSlice {t l c} : evStep P C wr L dst ρ (.makeSlice t l c) = wrapE (efMake P L (idOf dst) t (ρ l).un (ρ c).un) := es_eff rfl rfl rfl
theorem es_store {t x y} : evStep P C wr L dst ρ (.store t x y) = wrapE (efStore P L t (ρ x).un (ρ y).un) := es_eff rfl rfl rfl
theorem es_range {t x} : evStep P C wr L dst ρ (.range t x) = wrapE (efRange P L (idOf dst) t (ρ x).un) := es_eff rfl rfl rfl
theorem es_next {x} : evStep P C wr L dst ρ (.next x true) = wrapE (efNext L (ρ x).un) := es_eff rfl rfl rfl
theorem es_copy {a t} : evStep P C wr L dst ρ (.call ⟨.builtin .copy, a, t⟩) = wrapE (evEff P L (idOf dst) ρ (.call ⟨.builtin .copy, a, t⟩)) := es_eff rfl rfl rfl
theorem es_clear {a t} : evStep P C wr L dst ρ (.call ⟨.builtin .clear, a, t⟩) = wrapE (evEff P L (idOf dst) ρ (.call ⟨.builtin .clear, a, t⟩)) := es_eff rfl rfl rfl
theorem es_append {a t} : evStep P C wr L dst ρ (.call ⟨.builtin .append, a, t⟩) = wrapE (evEff P L (idOf dst) ρ (.call ⟨.builtin .append, a, t⟩)) := es_eff rfl rfl rfl
theorem es_call {x a t} : evStep P C wr L dst ρ (.call ⟨.value x, a, t⟩) = evCall C L (idOf dst) ρ (.call ⟨.value x, a, t⟩) := by
  rw [es_eq]; rfl
end

section
variable {P : Program} {C : Tbl} {wr : Bool} {D : Nat → List Nat} {U : Nat → Option CutS} {m : Nat} {st : St} {Q : Ex → St → Prop}

theorem W_V {c : Code} : W P C wr D U m c st Q = @V P C wr m st ⟨D⟩ ⟨U⟩ ⟨c⟩ ⟨Q⟩ := rfl

theorem V_skip : @V P C wr m st ⟨D⟩ ⟨U⟩ ⟨.skip⟩ ⟨Q⟩ = Q .normal st := rfl
theorem V_label {l} : @V P C wr m st ⟨D⟩ ⟨U⟩ ⟨.label l⟩ ⟨Q⟩ = Q .normal st := rfl
theorem V_regF {id : Nat} {l : List Oper} : @V P C wr m st ⟨D⟩ ⟨U⟩ ⟨.region id ⟨l⟩ false⟩ ⟨Q⟩ = @VO P C wr st ⟨l⟩ ⟨l⟩ ⟨fun s => Q .normal s⟩ := rfl
theorem V_regT {id : Nat} {l : List Oper} : @V P C wr m st ⟨D⟩ ⟨U⟩ ⟨.region id ⟨l⟩ true⟩ ⟨Q⟩ = @VD P C wr (D id) 0 st ⟨l⟩ ⟨l⟩ ⟨fun s => Q .normal s⟩ := rfl
def seqU (P : Program) (C : Tbl) (wr : Bool) (m : Nat) (st : St) (k : Option CutS) [D : HD] [U : HU] [a : Hold Code] [b : Hold Code] [Q : HQ] : Prop :=
  match k with
  | none => @V P C wr m st D U a ⟨kseq (fun s => @V P C wr m s D U b Q) Q.v⟩
  | some k => @V P C wr m st D U a ⟨kcut m k.emb k.I Q.v⟩ ∧ ∀ x, k.I x → @V P C wr m (k.emb x) D U b Q
theorem seqU_none {a b} : @seqU P C wr m st none ⟨D⟩ ⟨U⟩ ⟨a⟩ ⟨b⟩ ⟨Q⟩ = @V P C wr m st ⟨D⟩ ⟨U⟩ ⟨a⟩ ⟨kseq (fun s => @V P C wr m s ⟨D⟩ ⟨U⟩ ⟨b⟩ ⟨Q⟩) Q⟩ := rfl
theorem seqU_some {X emb I a b} : @seqU P C wr m st (some ⟨X, emb, I⟩) ⟨D⟩ ⟨U⟩ ⟨a⟩ ⟨b⟩ ⟨Q⟩ = (@V P C wr m st ⟨D⟩ ⟨U⟩ ⟨a⟩ ⟨kcut m emb I Q⟩ ∧ ∀ x, I x → @V P C wr m (emb x) ⟨D⟩ ⟨U⟩ ⟨b⟩ ⟨Q⟩) := rfl
theorem V_scope {b} : @V P C wr m st ⟨D⟩ ⟨U⟩ ⟨.scope b⟩ ⟨Q⟩ = @V P C wr m st ⟨D⟩ ⟨U⟩ ⟨b⟩ ⟨Q⟩ := rfl
theorem V_goto {l} : @V P C wr m st ⟨D⟩ ⟨U⟩ ⟨.goto l⟩ ⟨Q⟩ = False := rfl
theorem V_seq {a b} : @V P C wr m st ⟨D⟩ ⟨U⟩ ⟨.seq a b⟩ ⟨Q⟩ = @seqU P C wr m st (U (fstR b)) ⟨D⟩ ⟨U⟩ ⟨a⟩ ⟨b⟩ ⟨Q⟩ := by
  show W P C wr D U m (.seq a b) st Q = _
  simp only [W]
  unfold seqU
  cases U (fstR b) with
  | none =>
    show W P C wr D U m a st _ = W P C wr D U m a st _
    congr 1
    funext e s
    cases e <;> rfl
  | some k =>
    show (W P C wr D U m a st _ ∧ _) = (W P C wr D U m a st _ ∧ _)
    congr 2
    funext e s
    cases e <;> rfl
theorem V_cond {c a b} : @V P C wr m st ⟨D⟩ ⟨U⟩ ⟨.cond c a b⟩ ⟨Q⟩ = @cndP (st.ev c).un (st.ev c).uc ⟨@V P C wr m st ⟨D⟩ ⟨U⟩ ⟨a⟩ ⟨Q⟩⟩ ⟨@V P C wr m st ⟨D⟩ ⟨U⟩ ⟨b⟩ ⟨Q⟩⟩ := by
  show W P C wr D U m (.cond c a b) st Q = _
  simp only [W]
  cases (st.ev c).un <;> rfl
theorem V_block {id b} : @V P C wr m st ⟨D⟩ ⟨U⟩ ⟨.block id b⟩ ⟨Q⟩ = @V P C wr m st ⟨D⟩ ⟨U⟩ ⟨b⟩ ⟨kblk id Q⟩ := by
  show W P C wr D U m b st _ = W P C wr D U m b st _
  congr 1
  funext e s
  cases e <;> rfl
theorem V_loop {b} : @V P C wr m st ⟨D⟩ ⟨U⟩ ⟨.loop b⟩ ⟨Q⟩ = @VL P C wr m st ⟨D⟩ ⟨U⟩ ⟨b⟩ ⟨Q⟩ := rfl
theorem V_range {g ps A B} : @V P C wr m st ⟨D⟩ ⟨U⟩ ⟨.rangeFunc g ps A B⟩ ⟨Q⟩ = @VR P C m st g ps ⟨D⟩ ⟨A⟩ ⟨B⟩ ⟨Q⟩ := rfl
theorem V_exit {i} : @V P C wr m st ⟨D⟩ ⟨U⟩ ⟨.exit i⟩ ⟨Q⟩ = Q (.exit i) st := rfl
theorem V_ret : @V P C wr m st ⟨D⟩ ⟨U⟩ ⟨.ret⟩ ⟨Q⟩ = Q .ret st := rfl

theorem kcut_normal {X : Type} {emb : X → St} {I : X → Prop} {s} : kcut m emb I Q .normal s = ∃ x, WeakE m s (emb x) ∧ I x := rfl
theorem kcut_exit {X : Type} {emb : X → St} {I : X → Prop} {i s} : kcut m emb I Q (.exit i) s = Q (.exit i) s := rfl
theorem kcut_ret {X : Type} {emb : X → St} {I : X → Prop} {s} : kcut m emb I Q .ret s = Q .ret s := rfl
theorem kseq_normal {K s} : kseq K Q .normal s = K s := rfl
theorem kseq_exit {K i s} : kseq K Q (.exit i) s = Q (.exit i) s := rfl
theorem kseq_ret {K s} : kseq K Q .ret s = Q .ret s := rfl
theorem kblk_normal {i s} : kblk i Q .normal s = Q .normal s := rfl
theorem kblk_exit {i j s} : kblk i Q (.exit j) s = if j = i then Q .normal s else Q (.exit j) s := rfl
theorem kblk_ret {i s} : kblk i Q .ret s = Q .ret s := rfl

variable {all l : List Oper} {K : St → Prop}
theorem VO_nil : @VO P C wr st ⟨all⟩ ⟨[]⟩ ⟨K⟩ = K st := rfl
theorem VO_cons {o} : @VO P C wr st ⟨all⟩ ⟨o :: l⟩ ⟨K⟩ = @VP P C wr st ⟨all⟩ ⟨o⟩ ⟨fun s => @VO P C wr s ⟨all⟩ ⟨l⟩ ⟨K⟩⟩ := rfl
theorem VD_nil {ser k} : @VD P C wr ser k st ⟨all⟩ ⟨[]⟩ ⟨K⟩ = K st := rfl
theorem VD_cons {ser o k} : @VD P C wr ser k st ⟨all⟩ ⟨o :: l⟩ ⟨K⟩ = @serP (ser.contains k) ⟨@VP P C wr st ⟨all⟩ ⟨o⟩ ⟨fun s => @sameH (codesOf ser k) ⟨st⟩ ⟨s⟩ ∧ @VD P C wr ser (k + 1) s ⟨all⟩ ⟨l⟩ ⟨K⟩⟩⟩
    ⟨@loadH C (codesOf ser k) ⟨o.op⟩ ⟨st⟩ ∧ @VPQ P C wr st ⟨all⟩ ⟨o⟩ ⟨fun s => @VD P C wr ser (k + 1) s ⟨all⟩ ⟨l⟩ ⟨K⟩⟩⟩ := by
  show WopsD P C wr all ser (o :: l) k st K = _
  simp only [WopsD]
  cases ser.contains k <;> rfl

variable {dst : Option Nat} {op : Op} {ty : TypeId} {pos : String} {after : Array Edge}
theorem VP_none : @VP P C wr st ⟨all⟩ ⟨⟨dst, op, ty, pos, after, none⟩⟩ ⟨K⟩ = @stepP (evStep P C wr st.lk dst st.ev op) st dst (ucL st.ev (opnds op)) ⟨K⟩ := rfl
theorem VPQ_none : @VPQ P C wr st ⟨all⟩ ⟨⟨dst, op, ty, pos, after, none⟩⟩ ⟨K⟩ = @stepQ (evStep P C wr st.lk dst st.ev op) st dst (ucL st.ev (opnds op)) ⟨K⟩ := by
  show WopQ P C wr all ⟨dst, op, ty, pos, after, none⟩ st K = _
  unfold WopQ stepQ
  simp only
  cases evStep P C wr st.lk dst st.ev op with
  | none => rfl
  | some x => obtain ⟨v, u, p⟩ := x; cases u <;> rfl
theorem VP_some {g} : @VP P C wr st ⟨all⟩ ⟨⟨dst, op, ty, pos, after, some g⟩⟩ ⟨K⟩ = @grdP (guardE st all (some g)) (evStep P C wr st.lk dst st.ev op) st dst (ucL st.ev (opnds op)) ⟨K⟩ := by
  show Wop P C wr all ⟨dst, op, ty, pos, after, some g⟩ st K = _
  unfold Wop grdP
  simp only
  cases guardE st all (some g) with
  | none => rfl
  | some e =>
    simp only
    cases evStep P C wr st.lk dst st.ev op with
    | none => rfl
    | some x => obtain ⟨v, u, p⟩ := x; cases u <;> rfl
theorem VPQ_some {g} : @VPQ P C wr st ⟨all⟩ ⟨⟨dst, op, ty, pos, after, some g⟩⟩ ⟨K⟩ = @grdQ (guardE st all (some g)) (evStep P C wr st.lk dst st.ev op) st dst (ucL st.ev (opnds op)) ⟨K⟩ := by
  show WopQ P C wr all ⟨dst, op, ty, pos, after, some g⟩ st K = _
  unfold WopQ grdQ
  simp only
  cases guardE st all (some g) with
  | none => rfl
  | some e =>
    simp only
    cases evStep P C wr st.lk dst st.ev op with
    | none => rfl
    | some x => obtain ⟨v, u, p⟩ := x; cases u <;> rfl
end

theorem pureEl_map {α : Type} (f : α → AV) (l : List α) (h : ∀ x, pureBL (f x).cells = true) : pureEl (l.map f) = true := by
  simp only [pureEl, List.all_map, List.all_eq_true]
  intro x _; exact h x

/-! ### loops -/
def kinv {X : Type} (m : Nat) (emb : X → St) (I : X → Prop) (μ : X → Nat) (x : X) (Q : Ex → St → Prop) : Ex → St → Prop
  | .normal, s => ∃ x', WeakE m s (emb x') ∧ I x' ∧ μ x' < μ x
  | .exit i, s => Q (.exit i) s
  | .ret, s => Q .ret s

def kinvS {X : Type} (m : Nat) (sw : List (Nat × Nat)) (emb : X → St) (I : X → Prop) (μ : X → Nat) (x : X) (Q : Ex → St → Prop) : Ex → St → Prop
  | .normal, s => ∃ x', WeakS m sw s (emb x') ∧ I x' ∧ μ x' < μ x
  | .exit i, s => Q (.exit i) s
  | .ret, s => Q .ret s

def VN (P : Program) (C : Tbl) (wr : Bool) (m : Nat) (st : St) (n : Nat) [D : HD] [U : HU] [b : Hold Code] [Q : HQ] : Prop :=
  unrollN (W P C wr D.v U.v m b.v) Q.v (InvL (W P C wr D.v U.v m b.v) m Q.v) n st

section
variable {P : Program} {C : Tbl} {wr : Bool} {D : Nat → List Nat} {U : Nat → Option CutS} {m : Nat} {st : St} {Q : Ex → St → Prop} {b : Code}
theorem VL_inv {X : Type} (emb : X → St) (I : X → Prop) (μ : X → Nat) (x0 : X) (hw : WeakE m st (emb x0)) (hI : I x0) (h : ∀ x, I x → @V P C wr m (emb x) ⟨D⟩ ⟨U⟩ ⟨b⟩ ⟨kinv m emb I μ x Q⟩) : @VL P C wr m st ⟨D⟩ ⟨U⟩ ⟨b⟩ ⟨Q⟩ := by
  refine ⟨0, X, emb, I, μ, x0, hw.weak, hI, fun x hx => W_mono _ _ _ _ (fun e s hs => ?_) (h x hx)⟩
  cases e with
  | normal => obtain ⟨x', h1, h2, h3⟩ := hs; exact ⟨x', h1.weak, h2, h3⟩
  | exit i => exact hs
  | ret => exact hs
theorem VL_invS (sw : List (Nat × Nat)) {X : Type} (emb : X → St) (I : X → Prop) (μ : X → Nat) (x0 : X) (hw : WeakS m sw st (emb x0)) (hI : I x0) (h : ∀ x, I x → @V P C wr m (emb x) ⟨D⟩ ⟨U⟩ ⟨b⟩ ⟨kinvS m sw emb I μ x Q⟩) : @VL P C wr m st ⟨D⟩ ⟨U⟩ ⟨b⟩ ⟨Q⟩ := by
  refine ⟨0, X, emb, I, μ, x0, hw.weak, hI, fun x hx => W_mono _ _ _ _ (fun e s hs => ?_) (h x hx)⟩
  cases e with
  | normal => obtain ⟨x', h1, h2, h3⟩ := hs; exact ⟨x', h1.weak, h2, h3⟩
  | exit i => exact hs
  | ret => exact hs
theorem VL_N (n : Nat) (h : @VN P C wr m st n ⟨D⟩ ⟨U⟩ ⟨b⟩ ⟨Q⟩) : @VL P C wr m st ⟨D⟩ ⟨U⟩ ⟨b⟩ ⟨Q⟩ := ⟨n, h⟩
theorem VN_succ {n : Nat} : @VN P C wr m st (n + 1) ⟨D⟩ ⟨U⟩ ⟨b⟩ ⟨Q⟩ = @V P C wr m st ⟨D⟩ ⟨U⟩ ⟨b⟩ ⟨kseq (fun s => @VN P C wr m s n ⟨D⟩ ⟨U⟩ ⟨b⟩ ⟨Q⟩) Q⟩ := by
  show W P C wr D U m b st _ = W P C wr D U m b st _
  congr 1
  funext e s
  cases e <;> rfl
theorem kinv_normal {X : Type} {emb : X → St} {I : X → Prop} {μ : X → Nat} {x : X} {s} : kinv m emb I μ x Q .normal s = ∃ x', WeakE m s (emb x') ∧ I x' ∧ μ x' < μ x := rfl
theorem kinvS_normal {X : Type} {sw : List (Nat × Nat)} {emb : X → St} {I : X → Prop} {μ : X → Nat} {x : X} {s} : kinvS m sw emb I μ x Q .normal s = ∃ x', WeakS m sw s (emb x') ∧ I x' ∧ μ x' < μ x := rfl
theorem kinvS_exit {X : Type} {sw : List (Nat × Nat)} {emb : X → St} {I : X → Prop} {μ : X → Nat} {x : X} {i s} : kinvS m sw emb I μ x Q (.exit i) s = Q (.exit i) s := rfl
theorem kinvS_ret {X : Type} {sw : List (Nat × Nat)} {emb : X → St} {I : X → Prop} {μ : X → Nat} {x : X} {s} : kinvS m sw emb I μ x Q .ret s = Q .ret s := rfl
theorem kinv_exit {X : Type} {emb : X → St} {I : X → Prop} {μ : X → Nat} {x : X} {i s} : kinv m emb I μ x Q (.exit i) s = Q (.exit i) s := rfl
theorem kinv_ret {X : Type} {emb : X → St} {I : X → Prop} {μ : X → Nat} {x : X} {s} : kinv m emb I μ x Q .ret s = Q .ret s := rfl
end

/-! ### a range over a function -/
def vr3 (lc : LoopC) (st : St) (sl : List (Nat × AV)) (pd : Option Code) [Q : HQ] : Prop := match pd with
  | none => Q.v .normal (st.upd [(loopId, .loop lc .exhausted none sl)])
  | some .ret => Q.v .ret (st.upd [(loopId, .loop lc .exhausted (some .ret) sl)])
  | some (.exit i) => Q.v (.exit i) (st.upd [(loopId, .loop lc .exhausted (some (.exit i)) sl)])
  | _ => False
def vr2 (lc : LoopC) (st : St) (o : Option Blk) [Q : HQ] : Prop := match o with
  | some (.loop _ s pd sl) => s ≠ .busy ∧ vr3 lc st sl pd
  | _ => False
def vr1b (lc : LoopC) (st : St) (r : CallR) [Q : HQ] : Prop := match r with
  | some (_, u, p) => p ∧ vr2 lc ⟨st.tmps, u ++ enterL lc st⟩ (St.lk ⟨st.tmps, u ++ enterL lc st⟩ loopId)
  | none => False
def vr1 (P : Program) (C : Tbl) (lc : LoopC) (st : St) (a : AV) (uc : Prop) [Q : HQ] : Prop := match a with
  | .clo f k cs => f ≠ yldF ∧ callable P f = true ∧ uc ∧ st.lk defId = none ∧ st.lk loopId = none ∧ vr1b lc st (evCallP C (lkB (enterL lc st)) 900000 f (cs.take k ++ (.yld loopId :: cs.drop k)))
  | _ => False
section
variable {P : Program} {C : Tbl} {D : Nat → List Nat} {m : Nat} {st : St} {Q : Ex → St → Prop} {lc : LoopC}
theorem vr3_none {sl} : @vr3 lc st sl none ⟨Q⟩ = Q .normal (st.upd [(loopId, .loop lc .exhausted none sl)]) := rfl
theorem vr3_ret {sl} : @vr3 lc st sl (some .ret) ⟨Q⟩ = Q .ret (st.upd [(loopId, .loop lc .exhausted (some .ret) sl)]) := rfl
theorem vr3_exit {sl i} : @vr3 lc st sl (some (.exit i)) ⟨Q⟩ = Q (.exit i) (st.upd [(loopId, .loop lc .exhausted (some (.exit i)) sl)]) := rfl
theorem vr2_some {l s pd sl} : @vr2 lc st (some (.loop l s pd sl)) ⟨Q⟩ = (s ≠ .busy ∧ @vr3 lc st sl pd ⟨Q⟩) := rfl
theorem vr1b_some {v u p} : @vr1b lc st (some (v, u, p)) ⟨Q⟩ = (p ∧ @vr2 lc ⟨st.tmps, u ++ enterL lc st⟩ (St.lk ⟨st.tmps, u ++ enterL lc st⟩ loopId) ⟨Q⟩) := rfl
theorem vr1_clo {f k cs uc} : @vr1 P C lc st (.clo f k cs) uc ⟨Q⟩ = (f ≠ yldF ∧ callable P f = true ∧ uc ∧ st.lk defId = none ∧ st.lk loopId = none ∧ @vr1b lc st (evCallP C (lkB (enterL lc st)) 900000 f (cs.take k ++ (.yld loopId :: cs.drop k))) ⟨Q⟩) := rfl
theorem VR_intro {g : Operand} {ps : Array Tmp} {A B : Code} (st1 : St) (lc : LoopC) (hw : WeakE m st st1) (h1 : lc.ps = ps) (h2 : lc.assign = A) (h3 : lc.body = B) (hd : D dN = [lc.n])
    (h : @vr1 P C lc st1 (st1.ev g).un (st1.ev g).uc ⟨Q⟩) : @VR P C m st g ps ⟨D⟩ ⟨A⟩ ⟨B⟩ ⟨Q⟩ := by
  refine ⟨st1, lc, hw.weak, h1, h2, h3, hd, ?_⟩
  unfold WR1
  revert h
  cases (st1.ev g).un <;> intro h <;> try exact h.elim
  rename_i f k cs
  obtain ⟨g1, g2, g3, g4, g5, g6⟩ := h
  refine ⟨g1, g2, g3, g4, g5, ?_⟩
  revert g6
  cases evCallP C (lkB (enterL lc st1)) 900000 f (cs.take k ++ (.yld loopId :: cs.drop k)) with
  | none => exact fun h => h
  | some r =>
    obtain ⟨v, u, p⟩ := r
    rintro ⟨hp, h⟩
    refine ⟨hp, ?_⟩
    show WR2 lc ⟨st1.tmps, u ++ enterL lc st1⟩ Q
    unfold WR2
    revert h
    cases St.lk ⟨st1.tmps, u ++ enterL lc st1⟩ loopId with
    | none => exact fun h => h
    | some b =>
      cases b <;> intro h <;> try exact h.elim
      rename_i s pd sl
      refine ⟨h.1, ?_⟩
      have h2 := h.2
      revert h2
      cases pd with
      | none => exact fun h => h
      | some c => cases c <;> intro h <;> first | exact h | exact h.elim
end
end Go.Abs
set_option linter.unusedVariables false
set_option linter.unusedSimpArgs false
namespace Go.Abs

theorem Fr.below {w w' : World} (h : Fr (fun _ => False) w w') : RowKit.Below w.heap.size w w' := ⟨h.os, h.tape, h.output, h.size, fun k hk => h.block k hk (fun h => h)⟩

theorem heapOK_nil {w : World} {ok : Nat → Nat → Prop} (hok : ∀ b o, ok b o → b < w.heap.size) : HeapOK w ok (lkE []) (fun _ => none) :=
  ⟨fun id sz ro d c h => by simp [lkE] at h, fun id b h => by simp [lkE] at h, fun _ _ => rfl, fun i j b h => by simp at h, fun b o hb => ⟨hok b o hb, fun id h => by simp at h⟩⟩

/-- A LAW: it returns true, and nothing that was there has turned. -/
theorem law_below {P : Program} {f : FuncId} {args : List AV} (hc : (callable P f && decide (f ≠ yldF)) = true) (h : SpecE P f [] args [] (.bool true)) {w : World} {vs : List Value} (ok : Nat → Nat → Prop) (hok : ∀ b o, ok b o → b < w.heap.size) (hl : vs.length = args.length)
    (hr : ∀ (i : Nat) (a : AV) (v : Value), args[i]? = some a → vs[i]? = some v → Rp w ok a v) :
    Calls P f vs.toArray w fun e w' => e = .returned (.bool true) ∧ RowKit.Below w.heap.size w w' := by
  simp only [Bool.and_eq_true, decide_eq_true_eq] at hc
  refine ((h w ok (fun _ => none) vs (heapOK_nil hok) hl (fun i a v ha hv => .pure _ _ (hr i a v ha hv))).toCalls hc.1 hc.2).mono ?_
  rintro e w' ⟨v, ok', φ', rfl, post⟩
  have hv : v = .bool true := by
    have := post.val
    cases this with
    | pure _ _ h => cases h; rfl
  refine ⟨by rw [hv], Fr.below ⟨post.frame.os, post.frame.tape, post.frame.output, post.frame.size, fun k hk _ => post.frame.block k hk (fun ⟨i, hi⟩ => by simp at hi)⟩⟩

/-- Arguments, one by one. -/
inductive RpL (w : World) (ok : Nat → Nat → Prop) : List AV → List Value → Prop
  | nil : RpL w ok [] []
  | cons (a : AV) (v : Value) (as : List AV) (vs : List Value) (h : Rp w ok a v) (r : RpL w ok as vs) : RpL w ok (a :: as) (v :: vs)
theorem RpL.len {w ok as vs} (h : RpL w ok as vs) : vs.length = as.length := by
  induction h with
  | nil => rfl
  | cons a v as vs h r ih => simp [ih]
theorem RpL.get {w ok as vs} (h : RpL w ok as vs) : ∀ (i : Nat) (a : AV) (v : Value), as[i]? = some a → vs[i]? = some v → Rp w ok a v := by
  induction h with
  | nil => intro i a v ha; simp at ha
  | cons a v as vs h r ih =>
    intro i x u hx hu
    cases i with
    | zero => simp at hx hu; subst hx; subst hu; exact h
    | succ i => exact ih i x u (by simpa using hx) (by simpa using hu)
theorem law_at {P : Program} {f : FuncId} {args : List AV} (hc : (callable P f && decide (f ≠ yldF)) = true) (h : SpecE P f [] args [] (.bool true)) {w : World} {vs : List Value} (ok : Nat → Nat → Prop) (hok : ∀ b o, ok b o → b < w.heap.size) (hr : RpL w ok args vs) :
    Calls P f vs.toArray w fun e w' => e = .returned (.bool true) ∧ RowKit.Below w.heap.size w w' := law_below hc h ok hok hr.len hr.get

/-- With no block of its own a value hangs on none. -/
theorem R.toRp0 {w ok L φ a v} (hL : ∀ id, L id = none) (h : R w ok L φ a v) : Rp w ok a v := by
  induction h with
  | pure a v h => exact h
  | ref id off len hw va vn vc sz ro d c h => rw [hL] at h; cases h
  | ptr id i j hw pa sz ro d c h => rw [hL] at h; cases h
  | it id s pos b h => rw [hL] at h; cases h
  | yld id lc st pd sl b h => rw [hL] at h; cases h
  | agg cs vs hl h1 h ih => exact .agg cs vs hl h1 ih
  | tuple cs vs hl h ih => exact .tuple cs vs hl ih
  | clo f k cs vs hl h ih => exact .clo f k cs vs hl ih
  | condT a v h ih => exact .condT a v ih
/-- A function that is handed no block, by what is known of its calls (the library's contracts): it leaves what was there alone. -/
theorem SpecE.ofCalls {P : Program} {f : FuncId} {args : List AV} {res : AV} (hc : (callable P f && decide (f ≠ yldF)) = true)
    (h : ∀ (w : World) (ok : Nat → Nat → Prop) (vs : List Value), (∀ b o, ok b o → b < w.heap.size) → vs.length = args.length → (∀ (i : Nat) (a : AV) (v : Value), args[i]? = some a → vs[i]? = some v → Rp w ok a v) →
      Calls P f vs.toArray w fun e w' => ∃ v, e = .returned v ∧ RowKit.Below w.heap.size w w' ∧ ∀ ok' : Nat → Nat → Prop, Rp w' ok' res v) : SpecE P f [] args [] res := by
  simp only [Bool.and_eq_true, decide_eq_true_eq] at hc
  intro w ok φ vs hh hl hr
  have h0 : ∀ id, lkE [] id = none := fun id => rfl
  refine CallsX.calls hc.1 hc.2 ((h w ok vs (fun b o hb => (hh.shut b o hb).1) hl (fun i a v ha hv => (hr i a v ha hv).toRp0 h0)).mono ?_)
  rintro e w' ⟨v, rfl, bel, hv⟩
  have hφ : ∀ i b, φ i = some b → False := fun i b hb => by rw [hh.dom i (h0 i)] at hb; cases hb
  refine ⟨v, ok, φ, rfl, ⟨⟨bel.os, bel.tape, bel.output, bel.size, fun k hk _ => bel.block k hk⟩, ?_, .pure _ _ (hv ok), ?_, fun i b hb => (hφ i b hb).elim, fun b o hb => .inl hb⟩⟩
  · exact ⟨fun id sz ro d c h => by simp [lkE] at h, fun id b h => by simp [lkE] at h, hh.dom, hh.inj, fun b o hb => ⟨Nat.lt_of_lt_of_le (hh.shut b o hb).1 bel.size, (hh.shut b o hb).2⟩⟩
  · exact ⟨fun _ _ h => h, fun b o hb => World.cell?_of_block (a := ⟨b, o, none⟩) (bel.block b (hh.shut b o hb).1), fun id sz ro d c h => by simp [lkE] at h, fun id b h => by simp [lkE] at h⟩
theorem Rp.strInv {w ok s v} (h : Rp w ok (.str s) v) : v = .string ⟨s.toArray⟩ := by cases h; rfl
theorem Rp.intInv {w ok k n v} (h : Rp w ok (.int k n) v) : v = .int k n := by cases h; rfl
end Go.Abs
