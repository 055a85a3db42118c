/- Bundles of equations. -/
import Derived.Test.YtefjblgmnoheiaaREw
set_option linter.unusedVariables false
set_option linter.unusedSimpArgs false
set_option linter.defProp false
noncomputable section
namespace Go.Proofs.Ytefjblgmnoheiaa.R
open Go

theorem argE_nil (args : List AV) : argEnv args [] = [] := rfl
theorem argE_cons (args : List AV) (t : Nat) (r : List Nat) : argEnv args (t :: r) = (t, (match args[t]? with | some v => v | none => .un)) :: argEnv args r := rfl
theorem setAt_nil (n : Nat) (vs : List AV) : setAt [] n vs = [] := rfl
theorem setAt_zc (c v : AV) (cs vs : List AV) : setAt (c :: cs) 0 (v :: vs) = v :: setAt cs 0 vs := rfl
theorem setAt_zn (c : AV) (cs : List AV) : setAt (c :: cs) 0 [] = c :: cs := rfl
theorem setAt_s (c : AV) (cs : List AV) (n : Nat) (vs : List AV) : setAt (c :: cs) (n + 1) vs = c :: setAt cs n vs := rfl
theorem cB_int (k : IntKind) (n : Int) : cellB (.int k n) = true := rfl
theorem cB_bool (b : Bool) : cellB (.bool b) = true := rfl
theorem cB_str (s : ByteArray) : cellB (.str s) = true := rfl
theorem cB_nil : cellB .nil = true := rfl
theorem cB_own (es id off len : Nat) (ex : Bool) : cellB (.own es id off len ex) = true := rfl
theorem cB_ptr (id off : Nat) : cellB (.ptr id off) = true := rfl
theorem cB_eptr (id i f : Nat) : cellB (.eptr id i f) = true := rfl
theorem cB_iptr (row : List AV) (f : Nat) : cellB (.iptr row f) = true := rfl
theorem cB_fn (f : Fn) (a b : List AV) : cellB (.fn f a b) = true := rfl
theorem cB_imm (es : Nat) (rows : List (List AV)) (ex : Bool) : cellB (.imm es rows ex) = true := rfl
theorem cBs_nil : cellBs [] = true := rfl
theorem cBs_cons (v : AV) (r : List AV) : cellBs (v :: r) = (cellB v && cellBs r) := rfl
theorem cells_ptr (id off : Nat) : cellsOf (.ptr id off) = some [.ptr id off] := rfl
theorem cells_fn (f : Fn) (a b : List AV) : cellsOf (.fn f a b) = some [.fn f a b] := rfl
theorem pB_int (k : IntKind) (n : Int) : plainB (.int k n) = true := rfl
theorem pB_bool (b : Bool) : plainB (.bool b) = true := rfl
theorem pB_str (s : ByteArray) : plainB (.str s) = true := rfl
theorem pB_agg (cs : List AV) : plainB (.agg cs) = plainBs cs := rfl
theorem pB_tup (cs : List AV) : plainB (.tup cs) = plainBs cs := rfl
theorem pBs_nil : plainBs [] = true := rfl
theorem pBs_cons (v : AV) (r : List AV) : plainBs (v :: r) = (plainB v && plainBs r) := rfl
theorem iF_int (k : IntKind) (n : Int) : idFree (.int k n) = true := rfl
theorem iF_bool (b : Bool) : idFree (.bool b) = true := rfl
theorem iF_str (s : ByteArray) : idFree (.str s) = true := rfl
theorem iF_agg (cs : List AV) : idFree (.agg cs) = idFrees cs := rfl
theorem iF_tup (cs : List AV) : idFree (.tup cs) = idFrees cs := rfl
theorem iFs_nil : idFrees [] = true := rfl
theorem iFs_cons (v : AV) (r : List AV) : idFrees (v :: r) = (idFree v && idFrees r) := rfl
theorem ci_eq (k : IntKind) (n : Int) : ci k n = [.int k n] := rfl
theorem cb_eq (b : Bool) : cb b = [.bool b] := rfl
theorem cs_eq (s : ByteArray) : cs s = [.str s] := rfl
theorem cl_eq {α : Type} (c : α → List AV) (l : List α) : cl c l = [sl c l] := rfl
theorem limN_eq : limN = 549755813888 := rfl
theorem dropA_nil (H : Heap) : dropAll H [] = H := rfl
theorem dropA_cons (H : Heap) (id : Nat) (r : List Nat) : dropAll H (id :: r) = dropAll (rmv H id) r := rfl
theorem backId_eq (l : List Nat) (m n1 nx j : Nat) : backId l m n1 nx j = if j < m then l[j]? else if j < n1 then some (nx + (j - m)) else none := rfl
theorem ctfz (P : Program) (f : Nat) : (cT P).fz f = true := rfl


section
variable {α β : Type}
theorem l_get0 (a : α) (l : List α) : (a :: l)[0]? = some a := rfl
theorem l_getS (a : α) (l : List α) (n : Nat) : (a :: l)[n + 1]? = l[n]? := rfl
theorem l_getN (n : Nat) : ([] : List α)[n]? = none := rfl
theorem l_lenC (a : α) (l : List α) : (a :: l).length = l.length + 1 := rfl
theorem l_lenN : ([] : List α).length = 0 := rfl
theorem l_appN (l : List α) : [] ++ l = l := rfl
theorem l_appC (a : α) (l l' : List α) : (a :: l) ++ l' = a :: (l ++ l') := rfl
theorem l_appR (l : List α) : l ++ [] = l := List.append_nil l
theorem l_mapC (f : α → β) (a : α) (l : List α) : (a :: l).map f = f a :: l.map f := rfl
theorem l_mapN (f : α → β) : ([] : List α).map f = [] := rfl
theorem l_dropZ (l : List α) : l.drop 0 = l := rfl
theorem l_dropS (a : α) (l : List α) (n : Nat) : (a :: l).drop (n + 1) = l.drop n := rfl
theorem l_dropN (n : Nat) : ([] : List α).drop n = [] := List.drop_nil
theorem l_takeZ (l : List α) : l.take 0 = [] := rfl
theorem l_takeS (a : α) (l : List α) (n : Nat) : (a :: l).take (n + 1) = a :: l.take n := rfl
theorem l_takeN (n : Nat) : ([] : List α).take n = [] := List.take_nil
theorem l_lenM (f : α → β) (l : List α) : (l.map f).length = l.length := List.length_map f
theorem l_lenA (l l' : List α) : (l ++ l').length = l.length + l'.length := List.length_append
theorem l_mapA (f : α → β) (l l' : List α) : (l ++ l').map f = l.map f ++ l'.map f := List.map_append
theorem l_getD (a b : α) : (some a).getD b = a := rfl
theorem l_getDn (b : α) : (none : Option α).getD b = b := rfl
theorem l_omap (f : α → β) (a : α) : (some a).map f = some (f a) := rfl
theorem l_omapn (f : α → β) : (none : Option α).map f = none := rfl
theorem l_or1 (a : α) (b : Option α) : (some a).or b = some a := rfl
theorem l_or2 (b : Option α) : (none : Option α).or b = b := rfl
theorem l_fmap (f : α → List β) (a : α) (l : List α) : (a :: l).flatMap f = f a ++ l.flatMap f := List.flatMap_cons
theorem l_fmapn (f : α → List β) : ([] : List α).flatMap f = [] := rfl
end
theorem l_range0 : List.range 0 = [] := rfl
theorem l_rangeS (n : Nat) : List.range (n + 1) = List.range n ++ [n] := List.range_succ
theorem l_mem (a b : Nat) (l : List Nat) : (a ∈ b :: l) = (a = b ∨ a ∈ l) := by simp
theorem l_memN (a : Nat) : (a ∈ ([] : List Nat)) = False := by simp
theorem b_and (a b : Bool) : ((a && b) = true) = (a = true ∧ b = true) := by simp
theorem b_or (a b : Bool) : ((a || b) = true) = (a = true ∨ b = true) := by simp
theorem b_beq (a b : Nat) : (Nat.beq a b = true) = (a = b) := by simp
theorem b_ff : (false = true) = False := by simp
theorem b_tt : (true = true) = True := by simp
theorem b_blt (a b : Nat) : (Nat.blt a b = true) = (a < b) := by simp
theorem b_cond {α : Type} (b : Bool) (x y : α) : (bif b then x else y) = if b = true then x else y := by cases b <;> rfl
theorem p_ta (p : Prop) : (True ∧ p) = p := by simp
theorem p_at (p : Prop) : (p ∧ True) = p := by simp
theorem p_fa (p : Prop) : (False ∧ p) = False := by simp
theorem p_af (p : Prop) : (p ∧ False) = False := by simp
theorem p_to (p : Prop) : (True ∨ p) = True := by simp
theorem p_ot (p : Prop) : (p ∨ True) = True := by simp
theorem p_fo (p : Prop) : (False ∨ p) = p := by simp
theorem p_of (p : Prop) : (p ∨ False) = p := by simp
theorem p_nt : (¬ True) = False := by simp
theorem p_nf : (¬ False) = True := by simp
theorem b_nt : (!true) = false := rfl
theorem b_nf : (!false) = true := rfl
theorem b_bb (b : Bool) : (b == true) = b := by cases b <;> rfl
theorem b_bc (b : Bool) : (b == false) = !b := by cases b <;> rfl
theorem b_ot (b : Bool) : (b || true) = true := by cases b <;> rfl
theorem b_of (b : Bool) : (b || false) = b := by cases b <;> rfl
theorem b_to (b : Bool) : (true || b) = true := rfl
theorem b_fo (b : Bool) : (false || b) = b := rfl
theorem b_ta (b : Bool) : (true && b) = b := rfl
theorem b_fa (b : Bool) : (false && b) = false := rfl
theorem b_at (b : Bool) : (b && true) = b := by cases b <;> rfl
theorem b_af (b : Bool) : (b && false) = false := by cases b <;> rfl
theorem z_le (n : Nat) : (0 ≤ n) = True := by simp
theorem n_add0 (n : Nat) : n + 0 = n := rfl
theorem n_0add (n : Nat) : 0 + n = n := Nat.zero_add n
theorem n_sub0 (n : Nat) : n - 0 = n := rfl
def EVa := And.intro @lk_nil (And.intro @lk_cons (And.intro @upd_nil (And.intro @upd_cons (And.intro @rmv_nil (And.intro @rmv_cons (And.intro @pos_nil (And.intro @pos_cons (And.intro @andThen_some (And.intro @andThen_none (And.intro @putR_some (And.intro @nowS_eq (And.intro @nowN_eq (And.intro @nowI_eq (And.intro @nowB_eq (And.intro @numV_eq (And.intro @truV_eq (And.intro @evOps_nil (And.intro @evOps_cons (And.intro @evIO_plain (And.intro @evIO_store (And.intro @guardK_some (And.intro @evIO_guard (And.intro @evIO_guardN (And.intro @get_mk (And.intro @updD_some (And.intro @updD_none (And.intro @put_mk (And.intro @putO_some (And.intro @putO_none (And.intro @ev_t (And.intro @ev_c (And.intro @keep_some (And.intro @keep_none (And.intro @bin_int (@bin_str)))))))))))))))))))))))))))))))))))
def EVb := And.intro @wantA_some (And.intro @wantA_none (And.intro @wantV_bool (And.intro @wantV_un (And.intro @eqb_bool (And.intro @nt_bool (And.intro @ngt_int (And.intro @cvt_int (And.intro @pick_bool (And.intro @bin_add (And.intro @bin_sub (And.intro @bin_mul (((And.intro @bin_eql (And.intro @bin_neq (And.intro @bin_lss (And.intro @bin_leq (And.intro @bin_gtr (And.intro @bin_geq (And.intro @ext_tup (And.intro @fld_agg (And.intro @part_agg (And.intro @part_one (And.intro @partK_some (And.intro @fa_ptr (And.intro @fa_eptr (And.intro @fa_iptr (And.intro @ld_iptr (And.intro @ld_ptr (And.intro @ldK_box (And.intro @lenl_nil (And.intro @lenl_own (And.intro @lens_str (And.intro @evs_nil (And.intro @evs_cons (And.intro @evp_nil (And.intro @evp_cons (And.intro @evq_nil (And.intro @evq_cons (And.intro @evo_none (And.intro @evo_some (And.intro @build_eq (And.intro @bldK_some (And.intro @fillA_nil (And.intro @fillA_cons (And.intro @fillK_some (And.intro @cells_agg (And.intro @cells_int (And.intro @cells_bool (And.intro @cells_str (And.intro @cells_nil (And.intro @cells_own (And.intro @add_mk (And.intro @setH_mk (And.intro @st_ptr (And.intro @stK_some (@stK_some)))))))))))))))))))))))))))))))))))))))))))))))))))))))))
def EVc := And.intro @lenl_sl (And.intro @frz_sl (And.intro @leak_sl (And.intro @ren_sl (And.intro @cell_sl (And.intro @idf_sl (And.intro @pl_sl (And.intro @cells_sl (And.intro @reach_sl (And.intro @bstr_eql (And.intro @bstr_neq (And.intro @bstr_lss (And.intro @bstr_leq (And.intro @bstr_gtr (And.intro @bstr_geq (And.intro @b2s_sl (And.intro @fzK_some (And.intro @fzRet_eq (And.intro @locC_eq (And.intro @locK_some (And.intro @frz_nil (And.intro @frz_imm0 (And.intro @frz_nilI (And.intro @leak_nilI (And.intro @ren_nilI (And.intro @cell_nilI (And.intro @idf_nilI (And.intro @pl_nilI (And.intro @cells_nilI (And.intro @lenl_nilI (And.intro @rows_nilI (And.intro @src_nilI (And.intro @reach_nilI (And.intro @frz_bool (And.intro @frz_int (And.intro @frz_str (And.intro @frz_agg (And.intro @frz_tup (And.intro @frzs_nil (And.intro @frzs_cons (And.intro @leak_bool (And.intro @leak_int (And.intro @leak_str (And.intro @leak_nil (And.intro @leak_agg (And.intro @leak_tup (And.intro @leaks_nil (And.intro @leaks_cons (And.intro @ren_bool (And.intro @ren_int (And.intro @ren_str (And.intro @ren_nil (And.intro @ren_un (And.intro @ren_bad (And.intro @ren_agg (And.intro @ren_tup (And.intro @ren_fn (And.intro @ren_imm (And.intro @renK_some (And.intro @ren_own (And.intro @ren_ptr (And.intro @ren_eptr (And.intro @rens_nil (And.intro @rens_cons (And.intro @renE_nil (And.intro @renE_cons (And.intro @renO_box (And.intro @renO_arr (And.intro @renHK_some (And.intro @renHK_none (And.intro @renHn (And.intro @renHc (And.intro @vals_nil (And.intro @vals_cons (And.intro @reach_nil (And.intro @reachK_box (And.intro @reachK_arr (And.intro @reachK_none (And.intro @reachJ_some (And.intro @reachJ_none (And.intro @reach_own (And.intro @reach_eptr (And.intro @reach_ptr (And.intro @reach_fn (And.intro @reach_agg (And.intro @reach_tup (And.intro @reach_int (And.intro @reach_bool (And.intro @reach_str (And.intro @reach_nilv (And.intro @reach_un (And.intro @reach_bad (And.intro @reach_oth (And.intro @reach_imm (And.intro @reach_iptr (And.intro @fuelR_eq (And.intro @box_eq (And.intro @boxK_box (And.intro @boxK_arr (And.intro @places_eq (And.intro @tidy_eq (And.intro @tidK_mk (And.intro @evW_nil (And.intro @evW_cons (And.intro @evWK_some (And.intro @ev1_kill (And.intro @kill_nil (And.intro @kill_cons (And.intro @inB_nil (And.intro @inB_cons (And.intro @ev1_tidy (And.intro @canK_some (And.intro @canG_zero (And.intro @canG_succ (And.intro @canN_some (And.intro @canN_none (And.intro @ev1_at (And.intro @atJ_some (And.intro @atK_some (And.intro @ev1_cell (And.intro @ceH_ptr (And.intro @ceJ_box (And.intro @ceI_some (And.intro @ceK_mk (And.intro @ceL_some (And.intro @wk_frz (And.intro @wk_nil (And.intro @wk_own (And.intro @retQ_some (And.intro @retL_eq (And.intro @retR (And.intro @retN (And.intro @res_nil (And.intro @res_tmp (And.intro @res_cell (And.intro @resT_some (And.intro @resC_some (And.intro @one_one (And.intro @one_two (And.intro @one_nil (And.intro @evR_eq (And.intro @evRD_eq (And.intro @clrK_some (And.intro @callT (And.intro @callL (And.intro @callv_fn (And.intro @sl_nil (@lk_app)))))))))))))))))))))))))))))))))))))))))))))))))))))))))))))))))))))))))))))))))))))))))))))))))))))))))))))))))))))))))))))))))))))))))))))))))))
def EVd := And.intro @argE_nil (And.intro @argE_cons (And.intro @setAt_nil (And.intro @setAt_zc (And.intro @setAt_zn (And.intro @setAt_s (And.intro @cB_int (And.intro @cB_bool (And.intro @cB_str (And.intro @cB_nil (And.intro @cB_own (And.intro @cB_ptr (And.intro @cB_eptr (And.intro @cB_iptr (And.intro @cB_fn (And.intro @cB_imm (And.intro @cBs_nil (And.intro @cBs_cons (And.intro @cells_ptr (And.intro @cells_fn (And.intro @pB_int (And.intro @pB_bool (And.intro @pB_str (And.intro @pB_agg (And.intro @pB_tup (And.intro @pBs_nil (And.intro @pBs_cons (And.intro @iF_int (And.intro @iF_bool (And.intro @iF_str (And.intro @iF_agg (And.intro @iF_tup (And.intro @iFs_nil (And.intro @iFs_cons (And.intro @ci_eq (And.intro @cb_eq (And.intro @cs_eq (And.intro @cl_eq (And.intro @limN_eq (And.intro @dropA_nil (And.intro @dropA_cons (And.intro @backId_eq (@ctfz))))))))))))))))))))))))))))))))))))))))))
def EVl := And.intro @l_get0 (And.intro @l_getS (And.intro @l_getN (And.intro @l_lenC (And.intro @l_lenN (And.intro @l_appN (And.intro @l_appC (And.intro @l_appR (And.intro @l_mapC (And.intro @l_mapN (And.intro @l_dropZ (And.intro @l_dropS (And.intro @l_dropN (And.intro @l_takeZ (And.intro @l_takeS (And.intro @l_takeN (And.intro @l_lenM (And.intro @l_lenA (And.intro @l_mapA (And.intro @l_getD (And.intro @l_getDn (And.intro @l_omap (And.intro @l_omapn (And.intro @l_or1 (And.intro @l_or2 (And.intro @l_fmap (And.intro @l_fmapn (And.intro @l_range0 (And.intro @l_rangeS (And.intro @l_mem (And.intro @l_memN (And.intro @b_and (And.intro @b_or (And.intro @b_beq (And.intro @b_ff (And.intro @b_tt (And.intro @b_blt (@b_cond)))))))))))))))))))))))))))))))))))))
def EVp := And.intro @p_ta (And.intro @p_at (And.intro @p_fa (And.intro @p_af (And.intro @p_to (And.intro @p_ot (And.intro @p_fo (And.intro @p_of (And.intro @p_nt (And.intro @p_nf (And.intro @b_nt (And.intro @b_nf (And.intro @b_bb (And.intro @b_bc (And.intro @b_ot (And.intro @b_of (And.intro @b_to (And.intro @b_fo (And.intro @b_ta (And.intro @b_fa (And.intro @b_at (And.intro @b_af (And.intro @z_le (And.intro @n_add0 (And.intro @n_0add (@n_sub0)))))))))))))))))))))))))
theorem b_tb (b : Bool) : (true == b) = b := by cases b <;> rfl
theorem b_fb (b : Bool) : (false == b) = !b := by cases b <;> rfl
theorem shr_ne : shB .shr = true := rfl
theorem iaa_2 (size id off : Nat) (k : IntKind) (i : Int) : iaaAV size 2 (.ptr id off) (.int k i) = if decide (i = 0) = true then some (.ptr id off) else if decide (i = 1) = true then some (.ptr id (off + size)) else none := by
  rw [iaa_ptr]
  by_cases h0 : i = 0
  · subst h0; simp
  · by_cases h1 : i = 1
    · subst h1; simp
    · have : ¬ (0 ≤ i ∧ i < ((2 : Nat) : Int)) := by omega
      rw [if_neg this]; simp [h0, h1]
theorem iaa_3 (size id off : Nat) (k : IntKind) (i : Int) : iaaAV size 3 (.ptr id off) (.int k i) = if decide (i = 0) = true then some (.ptr id off) else if decide (i = 1) = true then some (.ptr id (off + size)) else if decide (i = 2) = true then some (.ptr id (off + 2 * size)) else none := by
  rw [iaa_ptr]
  by_cases h0 : i = 0
  · subst h0; simp
  · by_cases h1 : i = 1
    · subst h1; simp
    · by_cases h2 : i = 2
      · subst h2; simp
      · have : ¬ (0 ≤ i ∧ i < ((3 : Nat) : Int)) := by omega
        rw [if_neg this]; simp [h0, h1, h2]
theorem ixa_2 (size : Nat) (a : Bool) (cs : List AV) (k : IntKind) (i : Int) : ixaAV a size 2 (.agg cs) (.int k i) = if decide (i = 0) = true then part a size cs 0 else if decide (i = 1) = true then part a size cs size else none := by
  rw [ixa_agg]
  by_cases h0 : i = 0
  · subst h0; simp
  · by_cases h1 : i = 1
    · subst h1; simp
    · have : ¬ (0 ≤ i ∧ i < ((2 : Nat) : Int)) := by omega
      rw [if_neg this]; simp [h0, h1]
theorem ixa_3 (size : Nat) (a : Bool) (cs : List AV) (k : IntKind) (i : Int) : ixaAV a size 3 (.agg cs) (.int k i) = if decide (i = 0) = true then part a size cs 0 else if decide (i = 1) = true then part a size cs size else if decide (i = 2) = true then part a size cs (2 * size) else none := by
  rw [ixa_agg]
  by_cases h0 : i = 0
  · subst h0; simp
  · by_cases h1 : i = 1
    · subst h1; simp
    · by_cases h2 : i = 2
      · subst h2; simp
      · have : ¬ (0 ≤ i ∧ i < ((3 : Nat) : Int)) := by omega
        rw [if_neg this]; simp [h0, h1, h2]
theorem iaa_i2 (size : Nat) (row : List AV) (f : Nat) (k : IntKind) (i : Int) : iaaAV size 2 (.iptr row f) (.int k i) = if decide (i = 0) = true then some (.iptr row f) else if decide (i = 1) = true then some (.iptr row (f + size)) else none := by
  simp only [iaaAV]
  by_cases h0 : i = 0
  · subst h0; simp
  · by_cases h1 : i = 1
    · subst h1; simp
    · have : ¬ (0 ≤ i ∧ i < ((2 : Nat) : Int)) := by omega
      rw [if_neg this]; simp [h0, h1]
theorem iaa_i3 (size : Nat) (row : List AV) (f : Nat) (k : IntKind) (i : Int) : iaaAV size 3 (.iptr row f) (.int k i) = if decide (i = 0) = true then some (.iptr row f) else if decide (i = 1) = true then some (.iptr row (f + size)) else if decide (i = 2) = true then some (.iptr row (f + 2 * size)) else none := by
  simp only [iaaAV]
  by_cases h0 : i = 0
  · subst h0; simp
  · by_cases h1 : i = 1
    · subst h1; simp
    · by_cases h2 : i = 2
      · subst h2; simp
      · have : ¬ (0 ≤ i ∧ i < ((3 : Nat) : Int)) := by omega
        rw [if_neg this]; simp [h0, h1, h2]
theorem sl_app {α : Type} (c : α → List AV) (l l' : List α) : sl c (l ++ l') = canI (l.map c ++ l'.map c) := by simp [sl, List.map_append]
theorem sl_cons {α : Type} (c : α → List AV) (x : α) (l : List α) : sl c (x :: l) = canI (c x :: l.map c) := rfl
theorem canI_nil : canI [] = nilI := rfl
theorem ca_frz (H : Heap) (rows : List (List AV)) : frz H (canI rows) = canI rows := rfl
theorem ca_leak (H : Heap) (rows : List (List AV)) : leakV H (canI rows) = H := rfl
theorem ca_ren (f : Nat → Option Nat) (rows : List (List AV)) : ren f (canI rows) = canI rows := rfl
theorem ca_cell (rows : List (List AV)) : cellB (canI rows) = true := rfl
theorem ca_idf (rows : List (List AV)) : idFree (canI rows) = true := rfl
theorem ca_pl (rows : List (List AV)) : plainB (canI rows) = false := rfl
theorem ca_cells (rows : List (List AV)) : cellsOf (canI rows) = some [canI rows] := rfl
theorem ca_len (rows : List (List AV)) : lenlAV (canI rows) = some (.int .i64 rows.length) := rfl
theorem ca_reach (H : Heap) (k : Nat) (rows : List (List AV)) (todo : List AV) (acc : List Nat) : reach H (k + 1) (canI rows :: todo) acc = reach H k todo acc := by simp [canI, reach]
theorem ca_rows (n : Nat) (H : Heap) (r : List AV) (rs : List (List AV)) : rowsOf n H (canI (r :: rs)) = if r.length = n then some (r :: rs) else none := by
  simp only [canI, rowsOf, esOf, esFit, List.isEmpty_cons, Bool.false_or]
  by_cases h : r.length = n
  · subst h; simp
  · have : Nat.beq n r.length = false := by
      cases hb : Nat.beq n r.length with
      | false => rfl
      | true => exact absurd (Nat.eq_of_beq_eq_true hb).symm h
    simp [h, this]
theorem ca_src (n : Nat) (H : Heap) (r : List AV) (rs : List (List AV)) : srcRows n H (canI (r :: rs)) = if r.length = n then some (r :: rs) else none := ca_rows n H r rs
theorem ca_map {α : Type} (c : α → List AV) (l : List α) : canI (l.map c) = sl c l := rfl
theorem b_dt (h : Decidable True) : @decide True h = true := by simp
theorem b_df (h : Decidable False) : @decide False h = false := by simp
theorem tab_neP (l : List (Nat × List AV × Heap × Nat × (AV × Heap × Nat))) (f g m m' : Nat) (args args' : List AV) (H H' : Heap) (x : AV × Heap × Nat) (h : ¬ g = f) : tab ((f, args, H, m, x) :: l) g args' H' m' = tab l g args' H' m' := tab_ne l f g m m' args args' H H' x (by cases hb : Nat.beq g f with | false => rfl | true => exact absurd (Nat.eq_of_beq_eq_true hb) h)
theorem l_lenR {α : Type} (n : Nat) (a : α) : (List.replicate n a).length = n := List.length_replicate
theorem l_mapR {α β : Type} (f : α → β) (n : Nat) (a : α) : List.map f (List.replicate n a) = List.replicate n (f a) := List.map_replicate
def EVx := And.intro @st_ep <| And.intro @stE1_arr <| And.intro @stE2_some <| And.intro @setI_len <| And.intro @ev1_cut <| And.intro @cuK_arr <| And.intro @cuL_some <| And.intro @ev1_drop <| And.intro @ld_ep <| And.intro @ldE_arr <| And.intro @ldR_some <| And.intro @ev1_movc <| And.intro @mcH_ptr <| And.intro @mcJ_box <| And.intro @mcI_own <| And.intro @mcK_arr <| And.intro @mcL_some <| And.intro @mks_eq <| And.intro @l_lenR <| And.intro @l_mapR <| And.intro @boxK_none <| And.intro @ev1_mov <| And.intro @mvH_own <| And.intro @mvK_arr <| And.intro @mvL_some <| And.intro @sllX_some <| And.intro @sll_slD <| And.intro @lenl_slx <| And.intro @frz_slx <| And.intro @leak_slx <| And.intro @ren_slx <| And.intro @cell_slx <| And.intro @idf_slx <| And.intro @pl_slx <| And.intro @cells_slx <| @reach_slx
theorem ax_cT (P : Program) : (cT P).ax = 0 := rfl
theorem ax_cF (P : Program) : (cF P).ax = 0 := rfl
theorem ax_cM (P : Program) (l : List Nat) : (cM P l).ax = 0 := rfl
theorem clnX_0 (es : Nat) (s : St) (x : AV) : clnX 0 es s x = clnAV es s x := rfl
def EVw := And.intro EVx <| And.intro @ax_cT <| And.intro @ax_cF <| And.intro @ax_cM <| And.intro @clnX_0 <| And.intro @cln_eq <| And.intro @clnK_some <| And.intro @bin_and <| And.intro @bin_or <| And.intro @bin_xor <| And.intro @sl_app <| And.intro @iaa_2 <| And.intro @iaa_3 <| And.intro @ixa_2 <| And.intro @ixa_3 <| And.intro @iaa_i2 <| And.intro @iaa_i3 <| And.intro @sll_empty <| And.intro @byteRows_eq <| And.intro @bin_shr <| And.intro @bin_shl <| And.intro @bin_intS <| And.intro @shl_ne <| And.intro @shr_ne <| And.intro @ca_map <| And.intro @b_dt <| And.intro @b_df <| And.intro @rows_sl <| And.intro @src_sl <| And.intro @sl_cons <| And.intro @canI_nil <| And.intro @ca_frz <| And.intro @ca_leak <| And.intro @ca_ren <| And.intro @ca_cell <| And.intro @ca_idf <| And.intro @ca_pl <| And.intro @ca_cells <| And.intro @ca_len <| And.intro @ca_reach <| And.intro @ca_rows <| And.intro @ca_src <| And.intro @tab_self <| And.intro @tab_neP <| And.intro @b_tb (And.intro @b_fb (And.intro @newK_t (And.intro @newArr_eq (And.intro @app_eq (And.intro @appK_nil (And.intro @appK_imm (And.intro @appK_own (And.intro @appO_f (And.intro @appO_t (And.intro @src_own0 (And.intro @rows_own0 (And.intro @ownRK_arr (And.intro @src_nil0 (And.intro @src_str (And.intro @frz_own0 (And.intro @frzOK_map (And.intro @frzOK_rows (And.intro @leak_own0 (And.intro @leakAt_nil (And.intro @leakAt_cons (And.intro @leakOb_arr (And.intro @leakOb_box (And.intro @max_0 (And.intro @max_s (And.intro @bsl_eq (And.intro @bslK_some (And.intro @fillR_nil (And.intro @fillR_cons (And.intro @fillRK_some (And.intro @leakA_nil (And.intro @leakA_cons (And.intro @rep_0 (And.intro @rep_s (And.intro @set_0 (And.intro @set_s (And.intro @s2b_eq (And.intro @capB_0 (And.intro @capB_1 (And.intro @capB_2 (And.intro @capB_3 (And.intro @capB_4 (And.intro @capB_5 (And.intro @capB_6 (And.intro @capB_7 (And.intro @capB_8 (And.intro @mx_int (And.intro @mn_int (And.intro @nc_ptr (And.intro @nc_eptr (And.intro @nc_iptr (And.intro @nc_fn (And.intro @eqc_eq (And.intro @eqcK_f (And.intro @eqcK_t (And.intro @andO_some (And.intro @eqCs_nil (And.intro @eqCs_cons (And.intro @eqcC_int (And.intro @eqcC_bool (And.intro @eqcC_str (And.intro @i_eq (And.intro @n_eq (And.intro @n_le (And.intro @k_eq (And.intro @i_beq (And.intro @iasK_some (And.intro @ias_sl0 (And.intro @ias_nilI (And.intro @sllK_some (And.intro @sll_slA (And.intro @sll_slB (And.intro @sll_slC (And.intro @ixsK_some (And.intro @ixs_eq (And.intro @slsK_some (And.intro @sls_A (And.intro @sls_B (And.intro @sls_C (And.intro @catK_t (And.intro @bstr_cat (And.intro @quoK_f (And.intro @bin_quoK (@bin_remK)))))))))))))))))))))))))))))))))))))))))))))))))))))))))))))))))))))))))))))))))))
def EV := And.intro EVw <| And.intro EVp <| And.intro EVl (And.intro EVa (And.intro EVb (And.intro EVc EVd)))
theorem ft_mv (c : Cfg) (s : St) (x : Opd) : foot c s (.mv x) = some noFoot := rfl
theorem ft_pick (c : Cfg) (s : St) (x y z : Opd) : foot c s (.pick x y z) = some noFoot := rfl
theorem ft_bin (c : Cfg) (s : St) (o : BinOp) (x y : Opd) : foot c s (.bin o x y) = some noFoot := rfl
theorem ft_eqb (c : Cfg) (s : St) (g : Bool) (x y : Opd) : foot c s (.eqb g x y) = some noFoot := rfl
theorem ft_eqn (c : Cfg) (s : St) (g : Bool) (x : Opd) : foot c s (.eqn g x) = some noFoot := rfl
theorem ft_eqc (c : Cfg) (s : St) (g : Bool) (l : List (Nat × Nat)) (x y : Opd) : foot c s (.eqc g l x y) = some noFoot := rfl
theorem ft_ngt (c : Cfg) (s : St) (x : Opd) : foot c s (.ngt x) = some noFoot := rfl
theorem ft_nt (c : Cfg) (s : St) (x : Opd) : foot c s (.nt x) = some noFoot := rfl
theorem ft_cvt (c : Cfg) (s : St) (q : IntKind) (x : Opd) : foot c s (.cvt q x) = some noFoot := rfl
theorem ft_cst (c : Cfg) (s : St) (x : Opd) : foot c s (.cst x) = some noFoot := rfl
theorem ft_build (c : Cfg) (s : St) (z : List AV) (ps : List (Nat × Nat × Opd)) : foot c s (.build z ps) = some noFoot := rfl
theorem ft_fld (c : Cfg) (s : St) (a : Bool) (z o : Nat) (x : Opd) : foot c s (.fld a z o x) = some noFoot := rfl
theorem ft_ext (c : Cfg) (s : St) (j : Nat) (x : Opd) : foot c s (.ext j x) = some noFoot := rfl
theorem ft_fa (c : Cfg) (s : St) (o : Nat) (x : Opd) : foot c s (.fa o x) = some noFoot := rfl
theorem ft_ias (c : Cfg) (s : St) (z : Nat) (x y : Opd) : foot c s (.ias z x y) = some noFoot := rfl
theorem ft_iaa (c : Cfg) (s : St) (z l : Nat) (x y : Opd) : foot c s (.iaa z l x y) = some noFoot := rfl
theorem ft_ixs (c : Cfg) (s : St) (x y : Opd) : foot c s (.ixs x y) = some noFoot := rfl
theorem ft_ixa (c : Cfg) (s : St) (a : Bool) (z l : Nat) (x y : Opd) : foot c s (.ixa a z l x y) = some noFoot := rfl
theorem ft_sls (c : Cfg) (s : St) (x : Opd) (lo hi : Option Opd) : foot c s (.sls x lo hi) = some noFoot := rfl
theorem ft_sll (c : Cfg) (s : St) (z : Nat) (x : Opd) (lo hi mx : Option Opd) : foot c s (.sll z x lo hi mx) = some noFoot := rfl
theorem ft_mkf (c : Cfg) (s : St) (f : Nat) (a b : List Opd) : foot c s (.mkf f a b) = some noFoot := rfl
theorem ft_nc (c : Cfg) (s : St) (x : Opd) : foot c s (.nc x) = some noFoot := rfl
theorem ft_lens (c : Cfg) (s : St) (x : Opd) : foot c s (.lens x) = some noFoot := rfl
theorem ft_lenl (c : Cfg) (s : St) (x : Opd) : foot c s (.lenl x) = some noFoot := rfl
theorem ft_mx (c : Cfg) (s : St) (x y : Opd) : foot c s (.mx x y) = some noFoot := rfl
theorem ft_mn (c : Cfg) (s : St) (x y : Opd) : foot c s (.mn x y) = some noFoot := rfl
theorem ft_alloc (c : Cfg) (s : St) (z : List AV) : foot c s (.alloc z) = some noFoot := rfl
theorem ft_box (c : Cfg) (s : St) (x : Opd) : foot c s (.box x) = some noFoot := rfl
theorem ft_mks (c : Cfg) (s : St) (es : Nat) (z : List AV) (l m : Opd) : foot c s (.mks es z l m) = some noFoot := rfl
theorem ft_s2b (c : Cfg) (s : St) (x : Opd) : foot c s (.s2b x) = some noFoot := rfl
theorem ft_ld (c : Cfg) (s : St) (a : Bool) (z : Nat) (p : Opd) : foot c s (.ld a z p) = some ⟨idL (s.ev p), [], []⟩ := rfl
theorem ft_st (c : Cfg) (s : St) (z : Nat) (p x : Opd) : foot c s (.st z p x) = some ⟨[], [], idL (s.ev p) ++ idsV (s.ev x)⟩ := rfl
theorem ft_bsl (c : Cfg) (s : St) (es : Nat) (z : List AV) (n : Nat) (ps : List (Nat × Opd)) : foot c s (.bsl es z n ps) = some ⟨[], idsVs (valsOf (s.evp ps)), []⟩ := rfl
theorem ft_app (c : Cfg) (s : St) (z : Nat) (x y : Opd) : foot c s (.app z x y) = some ⟨idsV (s.ev y), [], idsV (s.ev x)⟩ := rfl
theorem ft_cpy (c : Cfg) (s : St) (z : Nat) (x y : Opd) : foot c s (.cpy z x y) = some ⟨idsV (s.ev y), [], idsV (s.ev x)⟩ := rfl
theorem ft_cln (c : Cfg) (s : St) (z : Nat) (x : Opd) : foot c s (.cln z x) = some ⟨idsV (s.ev x), [], []⟩ := rfl
theorem ft_b2s (c : Cfg) (s : St) (x : Opd) : foot c s (.b2s x) = some ⟨idsV (s.ev x), [], []⟩ := rfl
def fcL : Option (List Nat) → Option Foot
  | some l => some ⟨[], [], l⟩
  | none => none
theorem fcL_some (l : List Nat) : fcL (some l) = some ⟨[], [], l⟩ := rfl
theorem footC_eq (c : Cfg) (s : St) (f : Nat) (L : List AV) : footC c s f L = if c.fz f = true then some ⟨[], idsVs L, []⟩ else fcL (reachM s.H fuelR L []) := by
  unfold footC fcL
  split
  · rfl
  · cases reachM s.H fuelR L [] <;> rfl
theorem ft_call (c : Cfg) (s : St) (f : Nat) (as : List Opd) : foot c s (.call f as) = footC c s f (s.evs as) := rfl
def fcV (c : Cfg) (s : St) (as : List AV) : AV → Option Foot
  | .fn (.func f) pre post => footC c s f (pre ++ (as ++ post))
  | _ => none
theorem ft_callv (c : Cfg) (s : St) (g : Opd) (as : List Opd) : foot c s (.callv g as) = fcV c s (s.evs as) (s.ev g) := by
  simp only [foot, fcV]
  cases s.ev g <;> first | rfl | (rename_i f _ _; cases f <;> rfl)
theorem fcV_fn (c : Cfg) (s : St) (as pre post : List AV) (f : Nat) : fcV c s as (.fn (.func f) pre post) = footC c s f (pre ++ (as ++ post)) := rfl
theorem noFoot_eq : noFoot = ⟨[], [], []⟩ := rfl
theorem idL_ptr (id o : Nat) : idL (.ptr id o) = [id] := rfl
theorem idL_eptr (id i f : Nat) : idL (.eptr id i f) = [id] := rfl
theorem idL_iptr (r : List AV) (f : Nat) : idL (.iptr r f) = [] := rfl
theorem ids_own (es id off len : Nat) (ex : Bool) : idsV (.own es id off len ex) = [id] := rfl
theorem ids_agg (cs : List AV) : idsV (.agg cs) = idsVs cs := by simp only [idsV]
theorem ids_tup (cs : List AV) : idsV (.tup cs) = idsVs cs := by simp only [idsV]
theorem ids_int (k : IntKind) (n : Int) : idsV (.int k n) = [] := rfl
theorem ids_bool (b : Bool) : idsV (.bool b) = [] := rfl
theorem ids_str (b : ByteArray) : idsV (.str b) = [] := rfl
theorem ids_nil : idsV .nil = [] := rfl
theorem ids_nilI : idsV nilI = [] := rfl
theorem ids_ca (rows : List (List AV)) : idsV (canI rows) = [] := rfl
theorem ids_sl {α : Type} (f : α → List AV) (l : List α) : idsV (sl f l) = [] := rfl
theorem ids_imm (es : Nat) (rows : List (List AV)) (ex : Bool) : idsV (.imm es rows ex) = [] := rfl
theorem ids_ptr (id o : Nat) : idsV (.ptr id o) = [] := rfl
theorem ids_eptr (id i f : Nat) : idsV (.eptr id i f) = [] := rfl
theorem ids_iptr (r : List AV) (f : Nat) : idsV (.iptr r f) = [] := rfl
theorem ids_fn (g : Fn) (a b : List AV) : idsV (.fn g a b) = [] := rfl
theorem ids_oth (v : Value) : idsV (.oth v) = [] := rfl
theorem ids_un : idsV .un = [] := rfl
theorem ids_bad : idsV .bad = [] := rfl
theorem idss_nil : idsVs [] = [] := rfl
theorem idss_cons (v : AV) (r : List AV) : idsVs (v :: r) = idsV v ++ idsVs r := by simp only [idsVs]
theorem vo_nil : valsOf [] = [] := rfl
theorem vo_cons (i : Nat) (v : AV) (r : List (Nat × AV)) : valsOf ((i, v) :: r) = v :: valsOf r := rfl
theorem mn_nil (x : Nat) : memN x [] = false := rfl
theorem mn_cons (x y : Nat) (r : List Nat) : memN x (y :: r) = (Nat.beq y x || memN x r) := rfl
theorem dj_nil (b : List Nat) : djB [] b = true := rfl
theorem dj_cons (x : Nat) (r b : List Nat) : djB (x :: r) b = (!(memN x b) && djB r b) := rfl
theorem ob_nil (q : Nat) : offB q [] = true := rfl
theorem ob_cons (q x : Nat) (r : List Nat) : offB q (x :: r) = ((decide (x < q) || decide (q + 64 ≤ x)) && offB q r) := by
  have h1 : Nat.blt x q = decide (x < q) := by rw [Bool.eq_iff_iff, Nat.blt_eq]; simp
  have h2 : Nat.ble (q + 64) x = decide (q + 64 ≤ x) := by rw [Bool.eq_iff_iff, Nat.ble_eq]; simp
  simp only [offB, h1, h2]
theorem pf_nil (base : Nat) (fs : List Foot) : pairsF base fs [] = true := rfl
theorem pf_cons (base : Nat) (fs : List Foot) (i j : Nat) (r : List (Nat × Nat)) : pairsF base fs ((i, j) :: r) = (pairO base i j fs[i]? fs[j]? && pairsF base fs r) := rfl
theorem po_some (base i j : Nat) (a b d x y z : List Nat) : pairO base i j (some ⟨a, b, d⟩) (some ⟨x, y, z⟩) = (djB d (x ++ (y ++ z)) && (djB z (a ++ b) && (offB (base + i * 64) (x ++ (y ++ z)) && offB (base + j * 64) (a ++ (b ++ d))))) := rfl
def rmJ (H : Heap) (k id : Nat) (todo : List AV) (acc : List Nat) : Option Ob → Option (List Nat)
  | some o => if id ∈ acc then reachM H k todo acc else reachM H k (subsA o ++ todo) (acc ++ [id])
  | none => if id ∈ acc then reachM H k todo acc else none
def rmK (H : Heap) (k id : Nat) (todo : List AV) (acc : List Nat) : Option Ob → Option (List Nat)
  | some (.box cells) => if id ∈ acc then reachM H k todo acc else reachM H k (cells ++ todo) (acc ++ [id])
  | some _ => if id ∈ acc then reachM H k todo acc else reachM H k todo (acc ++ [id])
  | none => if id ∈ acc then reachM H k todo acc else none
theorem rmJ_some (H : Heap) (k id : Nat) (todo : List AV) (acc : List Nat) (es : Nat) (rows : List (List AV)) (leak : Nat) : rmJ H k id todo acc (some (.arr es rows leak)) = if id ∈ acc then reachM H k todo acc else reachM H k todo (acc ++ [id]) := rfl
theorem rmK_box (H : Heap) (k id : Nat) (todo : List AV) (acc : List Nat) (cells : List AV) : rmK H k id todo acc (some (.box cells)) = if id ∈ acc then reachM H k todo acc else reachM H k (cells ++ todo) (acc ++ [id]) := rfl
theorem rmK_arr (H : Heap) (k id : Nat) (todo : List AV) (acc : List Nat) (es : Nat) (rows : List (List AV)) (leak : Nat) : rmK H k id todo acc (some (.arr es rows leak)) = if id ∈ acc then reachM H k todo acc else reachM H k todo (acc ++ [id]) := rfl
theorem rm_nil (H : Heap) (k : Nat) (acc : List Nat) : reachM H (k + 1) [] acc = some acc := rfl
theorem rm_own (H : Heap) (k es id off len : Nat) (ex : Bool) (todo : List AV) (acc : List Nat) : reachM H (k + 1) (.own es id off len ex :: todo) acc = rmJ H k id todo acc (lk H id) := by
  simp only [reachM, rmJ]
  cases lk H id <;> rfl
theorem rm_eptr (H : Heap) (k id i f : Nat) (todo : List AV) (acc : List Nat) : reachM H (k + 1) (.eptr id i f :: todo) acc = rmJ H k id todo acc (lk H id) := by
  simp only [reachM, rmJ]
  cases lk H id <;> rfl
theorem rm_ptr (H : Heap) (k id off : Nat) (todo : List AV) (acc : List Nat) : reachM H (k + 1) (.ptr id off :: todo) acc = rmK H k id todo acc (lk H id) := by
  simp only [reachM, rmK]
  cases lk H id with
  | none => rfl
  | some o => cases o <;> rfl
theorem rm_fn (H : Heap) (k : Nat) (g : Fn) (pre post todo : List AV) (acc : List Nat) : reachM H (k + 1) (.fn g pre post :: todo) acc = reachM H k (pre ++ (post ++ todo)) acc := rfl
theorem rm_agg (H : Heap) (k : Nat) (cs todo : List AV) (acc : List Nat) : reachM H (k + 1) (.agg cs :: todo) acc = reachM H k (cs ++ todo) acc := rfl
theorem rm_tup (H : Heap) (k : Nat) (cs todo : List AV) (acc : List Nat) : reachM H (k + 1) (.tup cs :: todo) acc = reachM H k (cs ++ todo) acc := rfl
theorem rm_int (H : Heap) (k : Nat) (q : IntKind) (n : Int) (todo : List AV) (acc : List Nat) : reachM H (k + 1) (.int q n :: todo) acc = reachM H k todo acc := rfl
theorem rm_bool (H : Heap) (k : Nat) (b : Bool) (todo : List AV) (acc : List Nat) : reachM H (k + 1) (.bool b :: todo) acc = reachM H k todo acc := rfl
theorem rm_str (H : Heap) (k : Nat) (b : ByteArray) (todo : List AV) (acc : List Nat) : reachM H (k + 1) (.str b :: todo) acc = reachM H k todo acc := rfl
theorem rm_nilv (H : Heap) (k : Nat) (todo : List AV) (acc : List Nat) : reachM H (k + 1) (.nil :: todo) acc = reachM H k todo acc := rfl
theorem rm_nilI (H : Heap) (k : Nat) (todo : List AV) (acc : List Nat) : reachM H (k + 1) (nilI :: todo) acc = reachM H k todo acc := rfl
theorem rm_sl {α : Type} (f : α → List AV) (l : List α) (H : Heap) (k : Nat) (todo : List AV) (acc : List Nat) : reachM H (k + 1) (sl f l :: todo) acc = reachM H k todo acc := rfl
theorem rm_ca (rows : List (List AV)) (H : Heap) (k : Nat) (todo : List AV) (acc : List Nat) : reachM H (k + 1) (canI rows :: todo) acc = reachM H k todo acc := rfl
theorem rm_un (H : Heap) (k : Nat) (todo : List AV) (acc : List Nat) : reachM H (k + 1) (.un :: todo) acc = reachM H k todo acc := rfl
theorem rm_bad (H : Heap) (k : Nat) (todo : List AV) (acc : List Nat) : reachM H (k + 1) (.bad :: todo) acc = reachM H k todo acc := rfl
theorem rm_oth (H : Heap) (k : Nat) (v : Value) (todo : List AV) (acc : List Nat) : reachM H (k + 1) (.oth v :: todo) acc = reachM H k todo acc := rfl
theorem rm_imm (H : Heap) (k es : Nat) (rows : List (List AV)) (ex : Bool) (todo : List AV) (acc : List Nat) : reachM H (k + 1) (.imm es rows ex :: todo) acc = reachM H k todo acc := rfl
theorem rm_iptr (H : Heap) (k : Nat) (row : List AV) (f : Nat) (todo : List AV) (acc : List Nat) : reachM H (k + 1) (.iptr row f :: todo) acc = reachM H k todo acc := rfl
theorem nb_ne (a b : Nat) (h : ¬ a = b) : Nat.beq a b = false := by
  cases hb : Nat.beq a b with
  | false => rfl
  | true => exact absurd (Nat.eq_of_beq_eq_true hb) h
theorem nb_eq (a : Nat) : Nat.beq a a = true := Nat.beq_refl a
theorem ft_clr (c : Cfg) (s : St) (n : Nat) (z : List AV) (x : Opd) : foot c s (.clr n z x) = some ⟨[], [], idsV (s.ev x)⟩ := rfl
def EVg := And.intro @ft_clr <| And.intro @ft_mv <| And.intro @ft_pick <| And.intro @ft_bin <| And.intro @ft_eqb <| And.intro @ft_eqn <| And.intro @ft_eqc <| And.intro @ft_ngt <| And.intro @ft_nt <| And.intro @ft_cvt <| And.intro @ft_cst <| And.intro @ft_build <| And.intro @ft_fld <| And.intro @ft_ext <| And.intro @ft_fa <| And.intro @ft_ias <| And.intro @ft_iaa <| And.intro @ft_ixs <| And.intro @ft_ixa <| And.intro @ft_sls <| And.intro @ft_sll <| And.intro @ft_mkf <| And.intro @ft_nc <| And.intro @ft_lens <| And.intro @ft_lenl <| And.intro @ft_mx <| And.intro @ft_mn <| And.intro @ft_alloc <| And.intro @ft_box <| And.intro @ft_mks <| And.intro @ft_s2b <| And.intro @ft_ld <| And.intro @ft_st <| And.intro @ft_bsl <| And.intro @ft_app <| And.intro @ft_cpy <| And.intro @ft_cln <| And.intro @ft_b2s <| And.intro @fcL_some <| And.intro @footC_eq <| And.intro @ft_call <| And.intro @ft_callv <| And.intro @fcV_fn <| And.intro @noFoot_eq <| And.intro @idL_ptr <| And.intro @idL_eptr <| And.intro @idL_iptr <| And.intro @ids_own <| And.intro @ids_agg <| And.intro @ids_tup <| And.intro @ids_int <| And.intro @ids_bool <| And.intro @ids_str <| And.intro @ids_nil <| And.intro @ids_nilI <| And.intro @ids_ca <| And.intro @ids_sl <| And.intro @ids_imm <| And.intro @ids_ptr <| And.intro @ids_eptr <| And.intro @ids_iptr <| And.intro @ids_fn <| And.intro @ids_oth <| And.intro @ids_un <| And.intro @ids_bad <| And.intro @idss_nil <| And.intro @idss_cons <| And.intro @vo_nil <| And.intro @vo_cons <| And.intro @mn_nil <| And.intro @mn_cons <| And.intro @dj_nil <| And.intro @dj_cons <| And.intro @ob_nil <| And.intro @ob_cons <| And.intro @pf_nil <| And.intro @pf_cons <| And.intro @po_some <| And.intro @rmJ_some <| And.intro @rmK_box <| And.intro @rmK_arr <| And.intro @rm_nil <| And.intro @rm_own <| And.intro @rm_eptr <| And.intro @rm_ptr <| And.intro @rm_fn <| And.intro @rm_agg <| And.intro @rm_tup <| And.intro @rm_int <| And.intro @rm_bool <| And.intro @rm_str <| And.intro @rm_nilv <| And.intro @rm_nilI <| And.intro @rm_sl <| And.intro @rm_ca <| And.intro @rm_un <| And.intro @rm_bad <| And.intro @rm_oth <| And.intro @rm_imm <| And.intro @rm_iptr <| And.intro @nb_ne <| And.intro @nb_eq <| And.intro @clsL_eq <| And.intro @cmK_t <| And.intro @cmK_f <| And.intro @callM <| And.intro @cM_fz <| And.intro @clsK_some <| And.intro @nsF_some <| And.intro @nsC_some <| And.intro @evNs_nil <| And.intro @evNs_cons <| And.intro @nxK_some <| And.intro @evN_eq <| And.intro @drK_some <| And.intro @drawA_eq <| And.intro @ftK_t <| And.intro @ftK_f <| And.intro @footO_none <| @footO_some
end Go.Proofs.Ytefjblgmnoheiaa.R
