/- Contracts as the templates tell them: arguments in other words, blocks handed back. No condition. -/
import Derived.Test.YtaedogbpcammbaaAbsS
set_option linter.unusedVariables false
set_option linter.unusedSimpArgs false
namespace Go.Abs

/-! ### an argument in other words -/
def argOK (a b : AV) : Prop :=
  match a with
  | .nils => match b with
    | .list _ l => l = []
    | b => .nils = b
  | a => a = b
theorem argOK.R {w ok L φ a b v} (h : argOK a b) (hr : R w ok L φ a v) : R w ok L φ b v := by
  unfold argOK at h
  split at h
  · split at h
    · subst h
      obtain rfl : v = .slice none 0 0 := by cases hr with | pure _ _ h => cases h; rfl
      exact .pure _ _ (.list0 _ none 0 (Nat.zero_le _))
    · rw [← h]; exact hr
  · rw [← h]; exact hr
theorem argOK.refl (a : AV) : argOK a a := by
  unfold argOK
  split <;> rfl
inductive ArgsOK : List AV → List AV → Prop
  | nil : ArgsOK [] []
  | cons {a b as bs} (h : argOK a b) (r : ArgsOK as bs) : ArgsOK (a :: as) (b :: bs)
theorem ArgsOK.len {as bs} (h : ArgsOK as bs) : as.length = bs.length := by induction h <;> simp_all
theorem ArgsOK.get {as bs} (h : ArgsOK as bs) : ∀ (i : Nat) (b : AV), bs[i]? = some b → ∃ a, as[i]? = some a ∧ argOK a b := by
  induction h with
  | nil => intro i b hb; simp at hb
  | cons h r ih =>
    intro i b hb
    cases i with
    | zero => simp at hb; subst hb; exact ⟨_, rfl, h⟩
    | succ i => exact ih i b (by simpa using hb)
theorem SpecE.args {P : Program} {f : FuncId} {E E' : List Blk} {as bs : List AV} {res : AV} (h : SpecE P f E bs E' res) (ha : ArgsOK as bs) : SpecE P f E as E' res := by
  intro w ok φ vs hh hl hr
  refine h w ok φ vs hh (by rw [hl, ha.len]) (fun i b v hb hv => ?_)
  obtain ⟨a, h1, h2⟩ := ha.get i b hb
  exact h2.R (hr i a v h1 hv)

/-! ### blocks handed back -/
def FinEv (P : Program) (m : Nat) (xs : List Nat) (rl : List ResultVar) (E' : List Blk) (res : List AV) (st : St) : Prop :=
  match resR P st.lk st.get rl with
  | some (l, p) => p ∧ noAny (renL (sigX m xs) res) = true ∧ okX m xs ∧ E'.length = m + xs.length ∧ subP st.lk (lkB (newBlks (sigX m xs) E' 0)) l (renL (sigX m xs) res) ∧
    subBE st.lk (lkB (newBlks (sigX m xs) E' 0)) (newBlks (sigX m xs) E' 0) ∧ extsOK st.lk (lkB (newBlks (sigX m xs) E' 0)) m
  | none => False
def FinE (P : Program) (m : Nat) (xs : List Nat) (rl : List ResultVar) (E' : List Blk) (res : List AV) : Ex → St → Prop
  | .exit _, _ => False
  | .normal, st => FinEv P m xs rl E' res st
  | .ret, st => FinEv P m xs rl E' res st
theorem finEv_ok {P m xs rl E' res st} (h : FinEv P m xs rl E' res st) : Ret P m rl E' res st := by
  unfold FinEv at h
  split at h
  · rename_i l p hr
    exact ⟨l, p, xs, hr, h.1, h.2.2.1, h.2.2.2.1, subP_ok h.2.1 h.2.2.2.2.1, subBE_ok h.2.2.2.2.2.1, h.2.2.2.2.2.2⟩
  · exact h.elim
theorem specFE {P : Program} {C : Tbl} {wr : Bool} {D : Nat → List Nat} {U : Nat → Option CutS} {f : Nat} {fn : Func} {E E' : List Blk} {args res : List AV} {nE nA : Nat} (xs : List Nat)
    (hm : P.follows .mixedOrders = true) (hC : TblOK P C) (hf : P.funcs[f]? = some fn) (hok : fnOK P fn D nE nA = true) (hE : E.length = nE) (hA : args.length = nA)
    (h : W P C wr D U nE (bodyOf fn) (St.init E args) (FinE P nE xs (rlOf fn) E' res)) : SpecE P f E args E' (resAV res) := by
  refine specF hm hC hf hok hE hA (W_mono _ _ _ _ (fun e s hs => ?_) h)
  cases e with
  | normal => exact finEv_ok hs
  | exit i => exact hs
  | ret => exact finEv_ok hs

/-! ### what values stand for -/
def toStr : AV → List UInt8
  | .str s => s
  | _ => []
def toInt : AV → Int
  | .int _ n => n
  | _ => 0
def enc_u8 (c : UInt8) : AV := .int .u8 c.toNat
def dec_u8 (a : AV) : UInt8 := UInt8.ofNat (toInt a).toNat
theorem dec_u8_byte (c : UInt8) : UInt8.ofNat ((c.toNat : Int)).toNat = c := by simp
def listOf : AV → List AV
  | .list _ l => l
  | _ => []
def enc_strs (l : List (List UInt8)) : AV := .list 1 (l.map .str)
def dec_strs (a : AV) : List (List UInt8) := (listOf a).map toStr
def enc_ints (l : List Int) : AV := .list 1 (l.map (.int .i64))
def dec_ints (a : AV) : List Int := (listOf a).map toInt
def enc_bytes (l : List UInt8) : AV := .list 1 (l.map byteAV)
def dec_bytes (a : AV) : List UInt8 := (listOf a).map toByte
theorem map_str_toStr (l : List (List UInt8)) : (l.map AV.str).map toStr = l := by simp [List.map_map, Function.comp_def, toStr]
theorem map_int_toInt (l : List Int) : (l.map (AV.int .i64)).map toInt = l := by simp [List.map_map, Function.comp_def, toInt]
theorem toByte_byteAV (b : UInt8) : toByte (byteAV b) = b := by simp [toByte, byteAV]
theorem map_byte_toByte (l : List UInt8) : (l.map byteAV).map toByte = l := by simp [List.map_map, Function.comp_def, toByte_byteAV]

theorem getD_map_str (l : List (List UInt8)) (n : Nat) : (l.map AV.str).getD n (AV.str []) = AV.str (l.getD n []) := by
  simp only [List.getD_eq_getElem?_getD, List.getElem?_map]; cases l[n]? <;> rfl
theorem getD_map_int (l : List Int) (n : Nat) : (l.map (AV.int .i64)).getD n (AV.int .i64 0) = AV.int .i64 (l.getD n 0) := by
  simp only [List.getD_eq_getElem?_getD, List.getElem?_map]; cases l[n]? <;> rfl
theorem getD_map_byte (l : List UInt8) (n : Nat) : (l.map byteAV).getD n (AV.int .u8 0) = byteAV (l.getD n 0) := by
  simp only [List.getD_eq_getElem?_getD, List.getElem?_map]; cases l[n]? <;> rfl
theorem pureEl_str (l : List (List UInt8)) : pureEl (l.map AV.str) = true := pureEl_map _ l (fun x => rfl)
theorem pureEl_int (l : List Int) : pureEl (l.map (AV.int .i64)) = true := pureEl_map _ l (fun x => rfl)
theorem pureEl_byte (l : List UInt8) : pureEl (l.map byteAV) = true := pureEl_map _ l (fun x => rfl)
theorem contOK_pure {L : Nat → Option Blk} {c : List AV} (h : pureEl c = true) : contOK L c = True := eq_true (.inl h)
theorem pureEl_nil : pureEl [] = true := rfl
theorem pureEl_cons {x : AV} {r : List AV} : pureEl (x :: r) = (pureBL x.cells && pureEl r) := rfl
theorem pureEl_append {a b : List AV} : pureEl (a ++ b) = (pureEl a && pureEl b) := by simp [pureEl]
theorem contOK_ids {L : Nat → Option Blk} {c : List AV} (h : idsOKL L (c.flatMap AV.cells) = True) : contOK L c = True := eq_true (.inr (by rw [h]; trivial))
theorem u8_lit (c : UInt8) (n : Nat) (h : n < 256) : ((c.toNat : Int) = no_index (@OfNat.ofNat Int n instOfNat)) = (c = @OfNat.ofNat UInt8 n UInt8.instOfNat) := by
  apply propext
  constructor
  · intro e
    apply UInt8.toNat.inj
    have e' : c.toNat = n := by
      have : (c.toNat : Int) = (n : Int) := e
      omega
    rw [e']
    show n = (UInt8.ofNat n).toNat
    simp; omega
  · intro e
    subst e
    show (((UInt8.ofNat n).toNat : Nat) : Int) = (n : Int)
    simp; omega
theorem u8_inj (c b : UInt8) : ((c.toNat : Int) = (b.toNat : Int)) = (c = b) := propext ⟨fun h => UInt8.toNat.inj (by omega), fun h => by rw [h]⟩
theorem range_1 : List.range 1 = [0] := rfl
theorem range_2 : List.range 2 = [0, 1] := rfl
theorem range_3 : List.range 3 = [0, 1, 2] := rfl
theorem range_4 : List.range 4 = [0, 1, 2, 3] := rfl
theorem range_5 : List.range 5 = [0, 1, 2, 3, 4] := rfl
theorem range_6 : List.range 6 = [0, 1, 2, 3, 4, 5] := rfl
theorem range_7 : List.range 7 = [0, 1, 2, 3, 4, 5, 6] := rfl
theorem range_8 : List.range 8 = [0, 1, 2, 3, 4, 5, 6, 7] := rfl
theorem toNat_add2 (n : Nat) : ((n : Int) + 1 + 1).toNat = n + 2 := by omega
theorem toNat_sub1 (n : Nat) : ((n : Int) - 1).toNat = n - 1 := by omega
theorem toNat_add (n m : Nat) : ((n : Int) + (m : Int)).toNat = n + m := by omega
theorem toNat_lit (n m : Nat) : ((n : Int) + no_index (@OfNat.ofNat Int m instOfNat)).toNat = n + m := by
  show ((n : Int) + (m : Int)).toNat = n + m
  omega
theorem take_min {α : Type} (s : List α) (n : Nat) : List.take (min (s.length : Int) (no_index (@OfNat.ofNat Int n instOfNat))).toNat s = List.take n s := by
  show List.take (min (s.length : Int) (n : Int)).toNat s = List.take n s
  rcases Nat.le_total s.length n with h | h
  · rw [List.take_of_length_le h, List.take_of_length_le (by omega)]
  · congr 1; omega
theorem min_ge (a n : Nat) : (0 ≤ min (a : Int) (no_index (@OfNat.ofNat Int n instOfNat))) = True := by
  show (0 ≤ min (a : Int) (n : Int)) = True
  exact eq_true (by omega)
theorem min_le_l (a n : Nat) : (min (a : Int) (no_index (@OfNat.ofNat Int n instOfNat)) ≤ (a : Int)) = True := eq_true (by omega)
theorem take_map {α : Type} (f : α → AV) (l : List α) (n : Nat) : List.take n (List.map f l) = List.map f (List.take n l) := (List.map_take ..).symm
theorem drop_map {α : Type} (f : α → AV) (l : List α) (n : Nat) : List.drop n (List.map f l) = List.map f (List.drop n l) := (List.map_drop ..).symm
theorem allU8_byte (l : List UInt8) : (l.map byteAV).all isU8 = true := by simp [List.all_map, byteAV, isU8]
theorem cells_byte (b : UInt8) : (byteAV b).cells = [byteAV b] := rfl
/-! ### functions that are handed in -/
def tbU8 (p : UInt8 → Bool) : List Blk → List AV → Option (List Blk × AV × Prop)
  | [], [.int .u8 b] => some ([], .bool (p (UInt8.ofNat b.toNat)), b = ((UInt8.ofNat b.toNat).toNat : Int))
  | _, _ => none
theorem tbU8_ok {P : Program} {f : FuncId} {p : UInt8 → Bool} (hs : ∀ c : UInt8, SpecE P f [] [enc_u8 c] [] (.bool (p c))) : ∀ E args E' res q, tbU8 p E args = some (E', res, q) → q → SpecE P f E args E' res := by
  intro E args E' res q h hq
  unfold tbU8 at h
  split at h
  · rename_i b
    simp only [Option.some.injEq, Prod.mk.injEq] at h
    obtain ⟨rfl, rfl, rfl⟩ := h
    have := hs (UInt8.ofNat b.toNat)
    unfold enc_u8 at this
    rw [← hq] at this
    exact this
  · cases h
def tbI32 (p : Int → Bool) : List Blk → List AV → Option (List Blk × AV × Prop)
  | [], [.int .i32 b] => some ([], .bool (p b), True)
  | _, _ => none
theorem tbI32_ok {P : Program} {f : FuncId} {p : Int → Bool} (hs : ∀ c : Int, SpecE P f [] [.int .i32 c] [] (.bool (p c))) : ∀ E args E' res q, tbI32 p E args = some (E', res, q) → q → SpecE P f E args E' res := by
  intro E args E' res q h hq
  unfold tbI32 at h
  split at h
  · simp only [Option.some.injEq, Prod.mk.injEq] at h
    obtain ⟨rfl, rfl, rfl⟩ := h
    exact hs _
  · cases h
def tbStr (p : List UInt8 → Bool) : List Blk → List AV → Option (List Blk × AV × Prop)
  | [], [.str b] => some ([], .bool (p b), True)
  | _, _ => none
theorem tbStr_ok {P : Program} {f : FuncId} {p : List UInt8 → Bool} (hs : ∀ c : List UInt8, SpecE P f [] [.str c] [] (.bool (p c))) : ∀ E args E' res q, tbStr p E args = some (E', res, q) → q → SpecE P f E args E' res := by
  intro E args E' res q h hq
  unfold tbStr at h
  split at h
  · simp only [Option.some.injEq, Prod.mk.injEq] at h
    obtain ⟨rfl, rfl, rfl⟩ := h
    exact hs _
  · cases h
/-! ### elements that hang on no block -/
theorem pidsL_map {α : Type} {f : α → AV} (h : ∀ x, pids (f x) = []) (l : List α) : pidsL (l.map f) = [] := by
  induction l with
  | nil => rfl
  | cons x r ih => simp [pidsL, h, ih]
theorem pidsL_append (a b : List AV) : pidsL (a ++ b) = pidsL a ++ pidsL b := by
  induction a with
  | nil => rfl
  | cons x r ih => simp [pidsL, ih]
theorem ren_map {α : Type} {f : α → AV} {σ : Nat → Nat} (h : ∀ x, ren σ (f x) = f x) (l : List α) : (l.map f).map (ren σ) = l.map f := by
  simp [List.map_map, Function.comp_def, h]

/-! the equations of the evaluator, as one set of the simplifier -/
attribute [go_sem] yldF List.range_zero V_skip V_label V_regF V_regT V_seq V_cond V_block V_loop V_exit V_ret kseq_normal kseq_exit kseq_ret kblk_normal kblk_exit kblk_ret kinv_normal kinv_exit kinv_ret VO_nil VO_cons VD_nil VD_cons VP_none VPQ_none VP_some VPQ_some WeakE noAnyT subTE subBE blkE extsOK stepP_some stepQ_some grdP_nil grdP_cons grdP_none grdQ_nil grdQ_none cndP_bool serP_true serP_false wrapP_some wrapE_some wrapP_none wrapE_none orR_some orR_none es_move es_assign es_pick es_binOp es_unOp es_index es_field es_fieldAddr es_extract es_build es_nilCheck es_makeFunc es_max es_min es_load es_indexAddr es_slice es_convert es_len es_alloc es_box es_buildSlice es_makeSlice es_store es_range es_next es_append es_call guardE evPure evRead evEff evCall evCallP evPick evNilCheck evBuiltin evBin evUn evConv evExtract evIndex evField evFieldAddr evIndexAddr evSlice evLen evMax evMin evBuild boundA unO idOf rdLen rdIndexAddr rdSlice rdLoad rdText efStore arrT efBoxed boxC efBuildSlice efMake efBytes elemsA efRange efNext srcA srcT efAppend purA purL AV.un AV.uc ucL opnds arithV arithP St.ev St.get St.lk St.put St.upd lkA lkB AV.ofVal St.init argT extB scal ren renL renB sig newBlks marks freshIds deadId addT nilT setAt fillA placesL AV.cells FinR FinS noAny subP resR slotE inR isBoolT AV.flat AV.shaped AV.one one1 oneT c0 c1 c2 c3 idsOK idsOKL evCall1 evCallH pids pidsL mids midsL hasId allIds blkIds reach idxOf sigH handE hpL keptOK sameBlks apartIds noDup orT_some orT_none FinE FinEv sigX okX argOK enc_u8 dec_u8 enc_strs dec_strs enc_ints dec_ints enc_bytes dec_bytes toStr toInt listOf map_str_toStr map_int_toInt map_byte_toByte dec_u8_byte pidsL_append pidsL_map ren_map call1a call1b call1c reachI handE1 hpArg hpJoin kept1 callHa callHb callHi orH_some orH_none evBinX evBinS evEqB evEqO evEqOp otherA evEq evEqS evEqF fldA eqInt eqBool eqStr eqPtr eqSl eqFn seqU_none seqU_some fstR kcut_normal kcut_exit kcut_ret isT_true gimp_T gimp_t gimp_f gimp_and gimp_isT gimp_gimp gimp_impB impB_self impB_T impB_t impB_f impB_and impB_l impB_r impB_nl impB_nr getD_map_str getD_map_int getD_map_byte pureEl_str pureEl_int pureEl_byte contOK_pure allU8_byte cells_byte byteAV pureEl_nil pureEl_cons pureEl_append contOK_ids pureBL AV.pureB u8_lit u8_inj tbU8 tbI32 tbStr toByte isU8 range_1 range_2 range_3 range_4 range_5 range_6 range_7 range_8 toNat_add2 toNat_sub1 toNat_add toNat_lit maxInt take_min min_ge min_le_l take_map drop_map List.map_cons List.map_nil List.map_toArray List.toList_toArray List.cons_append List.nil_append List.append_nil List.append_assoc Option.toList_some Option.toList_none List.getElem?_cons_zero List.getElem?_cons_succ List.getElem?_toArray List.size_toArray List.length_cons List.length_nil Option.getD_some Option.getD_none true_and and_true implies_true forall_const if_true if_false ite_true ite_false Bool.true_and Bool.and_true Bool.false_and Bool.and_false beq_self_eq_true beq_true beq_false imp_self false_implies and_self Bool.true_beq Bool.false_beq ne_eq not_false_eq_true Int.toNat_natCast ite_self Int.cast_ofNat_Int not_true_eq_false Int.le_refl UInt8.ofNat_toNat List.contains_nil List.contains_cons List.length_map Function.comp eq_self cond_true cond_false Bool.not_true Bool.not_false Bool.true_eq_false Bool.false_eq_true Bool.and_eq_true Bool.not_eq_true' Bool.not_eq_false' Bool.not_not and_imp List.take_succ_cons List.take_zero List.drop_succ_cons List.drop_zero List.mem_cons List.not_mem_nil forall_eq_or_imp or_false forall_eq false_or List.all_cons List.all_nil List.replicate_succ List.replicate_zero List.mem_nil_iff Option.map_some Option.map_none List.flatMap_cons List.flatMap_nil Bool.true_or Bool.or_true Bool.false_or Bool.or_false List.set_cons_zero List.set_cons_succ List.getD_cons_zero List.getD_cons_succ Bool.cond_true_left Bool.cond_false_right Bool.or_eq_true Bool.or_eq_false_iff decide_eq_true_eq decide_eq_false_iff_not Int.not_lt Int.not_le
end Go.Abs
