/- The program's functions answer what the models answer: 1. -/
import Derived.Test.YtcmejocmohohpaaMW0
set_option maxRecDepth 100000
set_option linter.unusedVariables false
set_option linter.unusedSimpArgs false
noncomputable section
namespace Go.Proofs.Ytcmejocmohohpaa.R
open Go Nat
/-! funicular/eval.truth -/
noncomputable abbrev qf_47 (r : TValue) : Ex → St → Prop := FinQ 0 [.cell 2 true 2] (.agg [.bool r.Bool, .int .i64 r.N]) [] 0
theorem w_m_eval_truth {b : Bool} {r : TValue}   (h : m_eval_truth b = some r) : Spec Pg 47 [.bool b] [] 0 (.agg [.bool r.Bool, .int .i64 r.N]) [] 0 := by
  refine Spec.intro Go.Proofs.Try.func47 i47_ok (le_of_ble rfl) ?_
  show Wp Pg 8 0 i47_B ⟨argEnv [.bool b] i47_V, [], [], 0⟩ (qf_47 r)
  unfold m_eval_truth at h
  unfold i47_B
  refine weakP [] ?_
  refine Wp.seq (regP (seqN (Wp.seq ?_)))
  refine regP (seqN (Wp.seq (Wp.seq ?_)))
  refine regP (seqN ?_)
  replace h := ifS h; rcases h with ⟨g1, h⟩ | ⟨g1, h⟩
  · replace h := retS h; subst h
    refine condTP ?_
    refine regP (seqN (Wp.seq ?_))
    refine regP (seqN (Wp.ret ?_))
    exact finP
  · replace h := retS h; subst h
    refine condFP (Wp.skip (seqN (Wp.seq ?_)))
    refine regP (seqN (Wp.ret ?_))
    exact finP
/-! cmp.isNaN[string] -/
noncomputable abbrev qf_82 (r : Bool) : Ex → St → Prop := FinQ 0 [.tmp 2] (.bool r) [] 0
theorem w_m_cmp_isNaN_string {x0 : ByteArray} {r : Bool}   (h : m_cmp_isNaN_string x0 = some r) : Spec Pg 82 [.str x0] [] 0 (.bool r) [] 0 := by
  refine Spec.intro Go.Proofs.Try.func82 i82_ok (le_of_ble rfl) ?_
  show Wp Pg 6 0 i82_B ⟨argEnv [.str x0] i82_V, [], [], 0⟩ (qf_82 r)
  unfold m_cmp_isNaN_string at h
  unfold i82_B
  refine weakP [] ?_
  replace h := retS h; subst h
  refine Wp.seq (regP (seqN (Wp.seq ?_)))
  refine regP (seqN (Wp.ret ?_))
  exact finP
/-! cmp.Less[string] -/
noncomputable abbrev qf_77 (r : Bool) : Ex → St → Prop := FinQ 0 [.tmp 4] (.bool r) [] 0
theorem w_m_cmp_Less_string {x0 : ByteArray} {y : ByteArray} {r : Bool}   (h : m_cmp_Less_string x0 y = some r) : Spec Pg 77 [.str x0, .str y] [] 0 (.bool r) [] 0 := by
  refine Spec.intro Go.Proofs.Try.func77 i77_ok (le_of_ble rfl) ?_
  show Wp Pg 17 0 i77_B ⟨argEnv [.str x0, .str y] i77_V, [], [], 0⟩ (qf_77 r)
  unfold m_cmp_Less_string at h
  unfold i77_B
  refine weakP [] ?_
  refine Wp.seq (regP (seqN (Wp.seq (Wp.reg ?_))))
  replace h := bndS h; obtain ⟨r0, g1, h⟩ := h
  refine chunkT 2 (tab_cons (w_m_cmp_isNaN_string g1) (tab_nil _)) ?_
  replace h := ifS h; rcases h with ⟨g2, h⟩ | ⟨g2, h⟩
  · replace h := bndS h; obtain ⟨r0_1, g3, h⟩ := h
    refine chunkT 3 (tab_cons (w_m_cmp_isNaN_string g3) (tab_nil _)) ?_
    replace h := ifS h; rcases h with ⟨g4, h⟩ | ⟨g4, h⟩
    · replace h := retS h; subst h
      refine lastT (tab_nil _) (seqN (Wp.ret ?_))
      exact finP
    · replace h := retS h; subst h
      refine lastT (tab_nil _) (seqN (Wp.ret ?_))
      exact finP
  · replace h := retS h; subst h
    refine lastT (tab_nil _) (seqN (Wp.ret ?_))
    exact finP
/-! slices.isNaN[string] -/
noncomputable abbrev qf_78 (r : Bool) : Ex → St → Prop := FinQ 0 [.tmp 2] (.bool r) [] 0
theorem w_m_slices_isNaN_string {x0 : ByteArray} {r : Bool}   (h : m_slices_isNaN_string x0 = some r) : Spec Pg 78 [.str x0] [] 0 (.bool r) [] 0 := by
  refine Spec.intro Go.Proofs.Try.func78 i78_ok (le_of_ble rfl) ?_
  show Wp Pg 6 0 i78_B ⟨argEnv [.str x0] i78_V, [], [], 0⟩ (qf_78 r)
  unfold m_slices_isNaN_string at h
  unfold i78_B
  refine weakP [] ?_
  replace h := retS h; subst h
  refine Wp.seq (regP (seqN (Wp.seq ?_)))
  refine regP (seqN (Wp.ret ?_))
  exact finP
/-! slices.BinarySearch[[]string,string] -/
noncomputable abbrev qf_63 (r : (Int × Bool)) : Ex → St → Prop := FinQ 0 [.tmp 4, .tmp 5] (.tup [.int .i64 r.1, .bool r.2]) [] 0
theorem w_m_slices_BinarySearch_string_string_k1 {x0 : (List ByteArray)} {target : ByteArray} {i_1 : Int} {r : (Int × Bool)}   (h : m_slices_BinarySearch_string_string_k1 x0 target i_1 = some r) : Wp Pg 54 0 (.seq (.reg none i63_R8) .ret) ⟨[(0, sl cs x0), (1, .str target), (4, .bad), (5, .bad), (6, .int .i64 (x0.length : Int)), (7, .int .i64 i_1), (8, .bad), (9, .bad), (15, .bad), (27, .bad)], [], [], 0⟩ (qf_63 r) := by
  unfold m_slices_BinarySearch_string_string_k1 at h
  refine Wp.seq (Wp.reg ?_)
  replace h := ifS h; rcases h with ⟨g5, h⟩ | ⟨g5, h⟩
  · replace h := bndS h; obtain ⟨e_1, g6, h⟩ := h
    replace h := ifS h; rcases h with ⟨g7, h⟩ | ⟨g7, h⟩
    · replace h := retS h; subst h
      refine lastT (tab_nil _) (seqN (Wp.ret ?_))
      exact finP
    · replace h := bndS h; obtain ⟨r0_1, g8, h⟩ := h
      refine chunkT 17 (tab_cons (w_m_slices_isNaN_string g8) (tab_nil _)) ?_
      replace h := ifS h; rcases h with ⟨g9, h⟩ | ⟨g9, h⟩
      · replace h := bndS h; obtain ⟨r0_2, g10, h⟩ := h
        replace h := retS h; subst h
        refine chunkT 3 (tab_cons (w_m_slices_isNaN_string g10) (tab_nil _)) ?_
        refine lastT (tab_nil _) (seqN (Wp.ret ?_))
        exact finP
      · replace h := retS h; subst h
        refine lastT (tab_nil _) (seqN (Wp.ret ?_))
        exact finP
  · replace h := retS h; subst h
    refine lastT (tab_nil _) (seqN (Wp.ret ?_))
    exact finP
theorem w_m_slices_BinarySearch_string_string_l1_B {x0 : (List ByteArray)} {target : ByteArray} {r : (Int × Bool)}   {rec_m_slices_BinarySearch_string_string_l1 : Int → Int → Option (Int × Bool)} (hrec_m_slices_BinarySearch_string_string_l1 : ∀ {i : Int} {j : Int}, rec_m_slices_BinarySearch_string_string_l1 i j = some r → LWp Pg 54 0 i63_L0 ⟨[(0, sl cs x0), (1, .str target), (4, .bad), (5, .bad), (6, .int .i64 (x0.length : Int)), (7, .int .i64 i), (8, .int .i64 j), (9, .bad), (15, .bad), (27, .bad)], [], [], 0⟩ (blockQ 0 (seqQ Pg 54 0 (.seq (.reg none i63_R8) .ret) (qf_63 r)))) {i : Int} {j : Int} (h : m_slices_BinarySearch_string_string_l1_B  x0 target rec_m_slices_BinarySearch_string_string_l1 i j = some r) : LWp Pg 54 0 i63_L0 ⟨[(0, sl cs x0), (1, .str target), (4, .bad), (5, .bad), (6, .int .i64 (x0.length : Int)), (7, .int .i64 i), (8, .int .i64 j), (9, .bad), (15, .bad), (27, .bad)], [], [], 0⟩ (blockQ 0 (seqQ Pg 54 0 (.seq (.reg none i63_R8) .ret) (qf_63 r))) := by
  unfold m_slices_BinarySearch_string_string_l1_B at h
  refine LWp.stepC i63_L0.eq_1 ?_
  refine Wp.seq (Wp.seq (regP (seqN ?_)))
  replace h := ifS h; rcases h with ⟨g1, h⟩ | ⟨g1, h⟩
  · refine condTP (Wp.skip (seqN (Wp.block (Wp.seq ?_))))
    refine regP (seqN (Wp.seq (Wp.reg ?_)))
    replace h := bndS h; obtain ⟨e, g2, h⟩ := h
    replace h := bndS h; obtain ⟨r0, g3, h⟩ := h
    refine lastT (tab_cons (w_m_cmp_Less_string g3) (tab_nil _)) (seqN ?_)
    replace h := ifS h; rcases h with ⟨g4, h⟩ | ⟨g4, h⟩
    · refine condTP ?_
      refine regP (blockN (loopN ?_))
      exact jumpL [.kill [9, 15, 27]] (hrec_m_slices_BinarySearch_string_string_l1 h)
    · refine condFP ?_
      refine regP (blockN (loopN ?_))
      exact jumpL [.kill [9, 15, 27]] (hrec_m_slices_BinarySearch_string_string_l1 h)
  · refine condFP (Wp.out (seqO (loopO (blockO (seqN ?_)))))
    exact jumpK [.kill [8, 15]] (w_m_slices_BinarySearch_string_string_k1 h)
theorem w_m_slices_BinarySearch_string_string_l1 {x0 : (List ByteArray)} {target : ByteArray} {r : (Int × Bool)}   : ∀ (n : Nat) {i : Int} {j : Int}, m_slices_BinarySearch_string_string_l1  x0 target n i j = some r → LWp Pg 54 0 i63_L0 ⟨[(0, sl cs x0), (1, .str target), (4, .bad), (5, .bad), (6, .int .i64 (x0.length : Int)), (7, .int .i64 i), (8, .int .i64 j), (9, .bad), (15, .bad), (27, .bad)], [], [], 0⟩ (blockQ 0 (seqQ Pg 54 0 (.seq (.reg none i63_R8) .ret) (qf_63 r))) := by
  intro n
  induction n with
  | zero => intro i j h; unfold m_slices_BinarySearch_string_string_l1 at h; cases h
  | succ n ih => intro i j h; unfold m_slices_BinarySearch_string_string_l1 at h; exact w_m_slices_BinarySearch_string_string_l1_B  ih h
theorem w_m_slices_BinarySearch_string_string {x0 : (List ByteArray)} {target : ByteArray} {r : (Int × Bool)}   (h : m_slices_BinarySearch_string_string x0 target = some r) : Spec Pg 63 [sl cs x0, .str target] [] 0 (.tup [.int .i64 r.1, .bool r.2]) [] 0 := by
  refine Spec.intro Go.Proofs.Try.func63 i63_ok (le_of_ble rfl) ?_
  show Wp Pg 54 0 i63_B ⟨argEnv [sl cs x0, .str target] i63_V, [], [], 0⟩ (qf_63 r)
  unfold m_slices_BinarySearch_string_string at h
  unfold i63_B
  refine weakP [] ?_
  refine Wp.seq (regP (seqN (Wp.seq ?_)))
  refine regP (seqN (Wp.seq ?_))
  refine regP (seqN (Wp.seq (Wp.block (Wp.loop ?_))))
  exact jumpL [.kill [4, 5, 9, 15, 27]] (w_m_slices_BinarySearch_string_string_l1 _ h)
/-! funicular/vars.Get -/
noncomputable abbrev qf_48 (r : (Int × Bool)) : Ex → St → Prop := FinQ 0 [.tmp 4, .tmp 5] (.tup [.int .i64 r.1, .bool r.2]) [] 0
theorem w_m_vars_Get_k1 {v : TVars} {r0 : (Int × Bool)} {v23 : Bool} {r : (Int × Bool)}   (h : m_vars_Get_k1 v r0 v23 = some r) : Wp Pg 29 0 (.cond (.t 23) (.seq (.reg none i48_R3) .ret) .skip) ⟨[(0, .bad), (1, .bad), (2, .ptr 0 0), (4, .bad), (5, .bad), (6, .int .i64 r0.1), (7, .bad), (23, .bool v23)], [], [(0, .box [sl cs v.Names, sl (ci .i64) v.Vals])], 1⟩ (seqQ Pg 29 0 (.seq (.reg none i48_R4) .ret) (qf_48 r)) := by
  unfold m_vars_Get_k1 at h
  replace h := ifS h; rcases h with ⟨g3, h⟩ | ⟨g3, h⟩
  · replace h := retS h; subst h
    refine condTP (Wp.seq ?_)
    refine regP (seqN (Wp.ret (seqR ?_)))
    exact finP
  · refine condFP (Wp.skip (seqN (Wp.seq ?_)))
    replace h := bndS h; obtain ⟨e, g4, h⟩ := h
    replace h := retS h; subst h
    refine regP (seqN (Wp.ret ?_))
    exact finP
theorem w_m_vars_Get {v : TVars} {name : ByteArray} {r : (Int × Bool)}   (h : m_vars_Get v name = some r) : Spec Pg 48 [.agg [sl cs v.Names, sl (ci .i64) v.Vals], .str name] [] 0 (.tup [.int .i64 r.1, .bool r.2]) [] 0 := by
  refine Spec.intro Go.Proofs.Try.func48 i48_ok (le_of_ble rfl) ?_
  show Wp Pg 29 0 i48_B ⟨argEnv [.agg [sl cs v.Names, sl (ci .i64) v.Vals], .str name] i48_V, [], [], 0⟩ (qf_48 r)
  unfold m_vars_Get at h
  unfold i48_B
  refine weakP [] ?_
  refine Wp.seq (regP (seqN (Wp.seq (Wp.reg ?_))))
  replace h := bndS h; obtain ⟨r0, g1, h⟩ := h
  refine chunkT 4 (tab_cons (w_m_slices_BinarySearch_string_string g1) (tab_nil _)) ?_
  refine lastT (tab_nil _) (seqN (Wp.seq (Wp.seq ?_)))
  replace h := ifS h; rcases h with ⟨g2, h⟩ | ⟨g2, h⟩
  · refine regP (seqN ?_)
    exact jumpK [.kill [0, 1, 4, 5, 7]] (w_m_vars_Get_k1 h)
  · refine regP (seqN ?_)
    exact jumpK [.kill [0, 1, 4, 5, 7]] (w_m_vars_Get_k1 h)
/-! funicular/eval.add -/
noncomputable abbrev qf_64 (r : (Int × Bool)) : Ex → St → Prop := FinQ 0 [.tmp 4, .tmp 5] (.tup [.int .i64 r.1, .bool r.2]) [] 0
theorem w_m_eval_add {a : Int} {b : Int} {r : (Int × Bool)}   (h : m_eval_add a b = some r) : Spec Pg 64 [.int .i64 a, .int .i64 b] [] 0 (.tup [.int .i64 r.1, .bool r.2]) [] 0 := by
  refine Spec.intro Go.Proofs.Try.func64 i64_ok (le_of_ble rfl) ?_
  show Wp Pg 17 0 i64_B ⟨argEnv [.int .i64 a, .int .i64 b] i64_V, [], [], 0⟩ (qf_64 r)
  unfold m_eval_add at h
  unfold i64_B
  refine weakP [] ?_
  replace h := retS h; subst h
  refine Wp.seq (regP (seqN (Wp.seq ?_)))
  refine regP (seqN (Wp.seq ?_))
  refine regP (seqN (Wp.ret ?_))
  exact finP
/-! funicular/eval.mul -/
noncomputable abbrev qf_65 (r : (Int × Bool)) : Ex → St → Prop := FinQ 0 [.tmp 4, .tmp 5] (.tup [.int .i64 r.1, .bool r.2]) [] 0
theorem w_m_eval_mul_k1 {a : Int} {b : Int} {v12 : Bool} {r : (Int × Bool)}   (h : m_eval_mul_k1 a b v12 = some r) : Wp Pg 32 0 (.cond (.t 12) (.seq (.reg none i65_R2) .ret) .skip) ⟨[(0, .int .i64 a), (1, .int .i64 b), (4, .bad), (5, .bad), (6, .bad), (12, .bool v12)], [], [], 0⟩ (seqQ Pg 32 0 (.seq (.reg none i65_R3) (.seq (.reg none i65_R4) .ret)) (qf_65 r)) := by
  unfold m_eval_mul_k1 at h
  replace h := ifS h; rcases h with ⟨g2, h⟩ | ⟨g2, h⟩
  · replace h := retS h; subst h
    refine condTP (Wp.seq ?_)
    refine regP (seqN (Wp.ret (seqR ?_)))
    exact finP
  · refine condFP (Wp.skip (seqN (Wp.seq ?_)))
    refine regP (seqN (Wp.seq ?_))
    replace h := reqF h; obtain ⟨g3, h⟩ := h
    replace h := ifS h; rcases h with ⟨g4, h⟩ | ⟨g4, h⟩
    · replace h := retS h; subst h
      refine regP (seqN (Wp.ret ?_))
      exact finP
    · replace h := retS h; subst h
      refine regP (seqN (Wp.ret ?_))
      exact finP
theorem w_m_eval_mul {a : Int} {b : Int} {r : (Int × Bool)}   (h : m_eval_mul a b = some r) : Spec Pg 65 [.int .i64 a, .int .i64 b] [] 0 (.tup [.int .i64 r.1, .bool r.2]) [] 0 := by
  refine Spec.intro Go.Proofs.Try.func65 i65_ok (le_of_ble rfl) ?_
  show Wp Pg 32 0 i65_B ⟨argEnv [.int .i64 a, .int .i64 b] i65_V, [], [], 0⟩ (qf_65 r)
  unfold m_eval_mul at h
  unfold i65_B
  refine weakP [] ?_
  refine Wp.seq (regP (seqN (Wp.seq (Wp.seq ?_))))
  replace h := ifS h; rcases h with ⟨g1, h⟩ | ⟨g1, h⟩
  · refine regP (seqN ?_)
    exact jumpK [.kill [4, 5, 6]] (w_m_eval_mul_k1 h)
  · refine regP (seqN ?_)
    exact jumpK [.kill [4, 5, 6]] (w_m_eval_mul_k1 h)
/-! funicular/eval.number -/
noncomputable abbrev qf_49 (r : (Int × Int)) : Ex → St → Prop := FinQ 0 [.tmp 6, .tmp 7] (.tup [.int .i64 r.1, .int .i64 r.2]) [] 0
theorem w_m_eval_number_k2 {c : Int} {ok : Bool} {r : (Int × Int)}   (h : m_eval_number_k2 c ok = some r) : Wp Pg 56 0 (.seq (.seq (.reg none i49_R17) (.cond (.t 54) (.seq (.reg none i49_R18) .ret) .skip)) (.seq (.reg none i49_R19) .ret)) ⟨[(0, .bad), (1, .bad), (2, .bad), (6, .bad), (7, .bad), (8, .int .i64 c), (9, .bool ok), (10, .bad), (11, .bad), (19, .bad), (29, .bad), (30, .bad), (38, .bad), (43, .bad), (46, .bad), (54, .bad)], [], [], 0⟩ (qf_49 r) := by
  unfold m_eval_number_k2 at h
  refine Wp.seq (Wp.seq (regP (seqN ?_)))
  replace h := ifS h; rcases h with ⟨g12, h⟩ | ⟨g12, h⟩
  · replace h := retS h; subst h
    refine condFP (Wp.skip (seqN (Wp.seq ?_)))
    refine regP (seqN (Wp.ret ?_))
    exact finP
  · replace h := retS h; subst h
    refine condTP (Wp.seq ?_)
    refine regP (seqN (Wp.ret (seqR ?_)))
    exact finP
theorem w_m_eval_number_k1 {a : Int} {b : Int} {v46 : Bool} {r : (Int × Int)}   (h : m_eval_number_k1 a b v46 = some r) : Wp Pg 56 0 (.cond (.t 46) (.reg none i49_R15) (.reg none i49_R16)) ⟨[(0, .bad), (1, .int .i64 a), (2, .int .i64 b), (6, .bad), (7, .bad), (8, .int .i64 (0 : Int)), (9, .bool true), (10, .bad), (11, .bad), (19, .bad), (29, .bad), (30, .bad), (38, .bad), (43, .bad), (46, .bool v46), (54, .bad)], [], [], 0⟩ (blockQ 1 (blockQ 0 (seqQ Pg 56 0 (.seq (.seq (.reg none i49_R17) (.cond (.t 54) (.seq (.reg none i49_R18) .ret) .skip)) (.seq (.reg none i49_R19) .ret)) (qf_49 r)))) := by
  unfold m_eval_number_k1 at h
  replace h := ifS h; rcases h with ⟨g10, h⟩ | ⟨g10, h⟩
  · refine condTP ?_
    refine regP (blockN (blockN (seqN ?_)))
    exact jumpK [.kill [1, 2, 46]] (w_m_eval_number_k2 h)
  · refine condFP ?_
    replace h := reqF h; obtain ⟨g11, h⟩ := h
    refine regP (blockN (blockN (seqN ?_)))
    exact jumpK [.kill [1, 2, 46]] (w_m_eval_number_k2 h)
theorem w_m_eval_number {kind : Int} {a : Int} {b : Int} {r : (Int × Int)}   (h : m_eval_number kind a b = some r) : Spec Pg 49 [.int .i64 kind, .int .i64 a, .int .i64 b] [] 0 (.tup [.int .i64 r.1, .int .i64 r.2]) [] 0 := by
  refine Spec.intro Go.Proofs.Try.func49 i49_ok (le_of_ble rfl) ?_
  show Wp Pg 56 0 i49_B ⟨argEnv [.int .i64 kind, .int .i64 a, .int .i64 b] i49_V, [], [], 0⟩ (qf_49 r)
  unfold m_eval_number at h
  unfold i49_B
  refine weakP [] ?_
  refine Wp.seq (regP (seqN (Wp.seq ?_)))
  refine regP (seqN (Wp.seq (Wp.seq ?_)))
  refine regP (seqN (Wp.block (Wp.seq ?_)))
  refine regP (seqN ?_)
  replace h := ifS h; rcases h with ⟨g1, h⟩ | ⟨g1, h⟩
  · refine condTP (Wp.reg ?_)
    replace h := bndS h; obtain ⟨r0, g2, h⟩ := h
    refine chunkT 3 (tab_cons (w_m_eval_add g2) (tab_nil _)) ?_
    refine lastT (tab_nil _) (blockN (seqN ?_))
    exact jumpK [.kill [0, 1, 2, 6, 7, 10, 11, 19, 29, 30, 38, 43, 46, 54]] (w_m_eval_number_k2 h)
  · refine condFP (Wp.seq ?_)
    refine regP (seqN ?_)
    replace h := ifS h; rcases h with ⟨g3, h⟩ | ⟨g3, h⟩
    · refine condTP (Wp.seq ?_)
      refine regP (seqN (Wp.seq ?_))
      refine regP (seqN ?_)
      replace h := ifS h; rcases h with ⟨g4, h⟩ | ⟨g4, h⟩
      · refine condFP (Wp.skip (blockN (seqN ?_)))
        exact jumpK [.kill [0, 1, 2, 6, 7, 10, 11, 19, 29, 30, 38, 43, 46, 54]] (w_m_eval_number_k2 h)
      · refine condTP ?_
        refine regP (blockN (seqN ?_))
        exact jumpK [.kill [0, 1, 2, 6, 7, 10, 11, 19, 29, 30, 38, 43, 46, 54]] (w_m_eval_number_k2 h)
    · refine condFP (Wp.seq ?_)
      refine regP (seqN ?_)
      replace h := ifS h; rcases h with ⟨g5, h⟩ | ⟨g5, h⟩
      · refine condTP (Wp.reg ?_)
        replace h := bndS h; obtain ⟨r0_1, g6, h⟩ := h
        refine chunkT 3 (tab_cons (w_m_eval_mul g6) (tab_nil _)) ?_
        refine lastT (tab_nil _) (blockN (seqN ?_))
        exact jumpK [.kill [0, 1, 2, 6, 7, 10, 11, 19, 29, 30, 38, 43, 46, 54]] (w_m_eval_number_k2 h)
      · refine condFP (Wp.seq ?_)
        refine regP (seqN ?_)
        replace h := ifS h; rcases h with ⟨g7, h⟩ | ⟨g7, h⟩
        · refine condTP (Wp.block (Wp.seq ?_))
          refine regP (seqN ?_)
          replace h := ifS h; rcases h with ⟨g8, h⟩ | ⟨g8, h⟩
          · replace h := retS h; subst h
            refine condTP (Wp.seq ?_)
            refine regP (seqN (Wp.ret (blockR (blockR (seqR ?_)))))
            exact finP
          · refine condFP (Wp.seq ?_)
            replace h := ifS h; rcases h with ⟨g9, h⟩ | ⟨g9, h⟩
            · refine regP (seqN ?_)
              exact jumpK [.kill [0, 6, 7, 10, 11, 19, 29, 30, 38, 43, 54]] (w_m_eval_number_k1 h)
            · refine regP (seqN ?_)
              exact jumpK [.kill [0, 6, 7, 10, 11, 19, 29, 30, 38, 43, 54]] (w_m_eval_number_k1 h)
        · refine condFP (Wp.skip (blockN (seqN ?_)))
          exact jumpK [.kill [0, 1, 2, 6, 7, 10, 11, 19, 29, 30, 38, 43, 46, 54]] (w_m_eval_number_k2 h)
end Go.Proofs.Ytcmejocmohohpaa.R
