/- The program's functions answer what the models answer: 10. -/
import Derived.Test.YtcmejocmohohpaaMW0
import Derived.Test.YtcmejocmohohpaaMW2
import Derived.Test.YtcmejocmohohpaaMW4
import Derived.Test.YtcmejocmohohpaaMW5
import Derived.Test.YtcmejocmohohpaaMW7
import Derived.Test.YtcmejocmohohpaaMW8
import Derived.Test.YtcmejocmohohpaaMW9
set_option maxRecDepth 100000
set_option linter.unusedVariables false
set_option linter.unusedSimpArgs false
noncomputable section
namespace Go.Proofs.Ytcmejocmohohpaa.R
open Go Nat
/-! funicular/funicularlaw10.EvalTyped -/
/-! funicular/funicularlaw10.EvalFolds -/
/-! funicular/funicularlaw10.EvalAsks -/
noncomputable abbrev qf_7 (r : Bool) : Ex → St → Prop := FinQ 0 [.tmp 8] (.bool r) [] 0
theorem w_m_law10_EvalAsks_k3 {r0_7 : (TValue × Int)} {r : Bool}   (h : m_law10_EvalAsks_k3 r0_7 = some r) : Wp Pg 91 0 (.seq (.reg none i7_R17) .ret) ⟨[(0, .bad), (1, .bad), (2, .bad), (3, .bad), (4, .bad), (5, .bad), (8, .bad), (9, .bad), (10, .bad), (11, .bad), (12, .int .i64 r0_7.2), (13, .bad), (14, .bad), (15, .bad), (16, .bad), (18, .bad), (32, .bad), (44, .bad), (65, .bad), (71, .bad), (84, .bad)], [], [], 0⟩ (qf_7 r) := by
  unfold m_law10_EvalAsks_k3 at h
  refine Wp.seq (Wp.reg ?_)
  replace h := ifS h; rcases h with ⟨g22, h⟩ | ⟨g22, h⟩
  · replace h := bndS h; obtain ⟨r0_12, g23, h⟩ := h
    replace h := retS h; subst h
    refine chunkT 4 (tab_cons (w_m_law10_works g23) (tab_nil _)) ?_
    refine lastT (tab_nil _) (seqN (Wp.ret ?_))
    exact finP
  · replace h := retS h; subst h
    refine lastT (tab_nil _) (seqN (Wp.ret ?_))
    exact finP
theorem w_m_law10_EvalAsks_l1_B {v : TVars} {r0_7 : (TValue × Int)} {r0_9 : (List ByteArray)} {r : Bool}   {rec_m_law10_EvalAsks_l1 : Int → Option Bool} (hrec_m_law10_EvalAsks_l1 : ∀ {i : Int}, rec_m_law10_EvalAsks_l1 i = some r → LWp Pg 91 0 i7_L0 ⟨[(0, .bad), (1, .bad), (2, .bad), (3, .bad), (4, .bad), (5, .ptr 0 0), (8, .bad), (9, .bad), (10, .bad), (11, .bad), (12, .int .i64 r0_7.2), (13, .bad), (14, .bad), (15, sl cs r0_9), (16, .int .i64 i), (18, .bad), (32, .bad), (44, .bad), (65, .bad), (71, .bad), (84, .bad)], [], [(0, .box [sl cs v.Names, sl (ci .i64) v.Vals])], 1⟩ (blockQ 0 (seqQ Pg 91 0 (.seq (.reg none i7_R17) .ret) (qf_7 r)))) {i : Int} (h : m_law10_EvalAsks_l1_B  v r0_7 r0_9 rec_m_law10_EvalAsks_l1 i = some r) : LWp Pg 91 0 i7_L0 ⟨[(0, .bad), (1, .bad), (2, .bad), (3, .bad), (4, .bad), (5, .ptr 0 0), (8, .bad), (9, .bad), (10, .bad), (11, .bad), (12, .int .i64 r0_7.2), (13, .bad), (14, .bad), (15, sl cs r0_9), (16, .int .i64 i), (18, .bad), (32, .bad), (44, .bad), (65, .bad), (71, .bad), (84, .bad)], [], [(0, .box [sl cs v.Names, sl (ci .i64) v.Vals])], 1⟩ (blockQ 0 (seqQ Pg 91 0 (.seq (.reg none i7_R17) .ret) (qf_7 r))) := by
  unfold m_law10_EvalAsks_l1_B at h
  refine LWp.stepC i7_L0.eq_1 ?_
  refine Wp.seq (Wp.seq (regP (seqN ?_)))
  replace h := ifS h; rcases h with ⟨g17, h⟩ | ⟨g17, h⟩
  · refine condTP (Wp.skip (seqN (Wp.seq (Wp.block (Wp.seq ?_)))))
    replace h := bndS h; obtain ⟨e, g18, h⟩ := h
    replace h := bndS h; obtain ⟨r0_10, g19, h⟩ := h
    refine drawP mixed (tab_cons (w_m_ref09_Get g19) (tab_nil _)) (seqN (Wp.seq ?_))
    refine regP (seqN ?_)
    replace h := ifS h; rcases h with ⟨g20, h⟩ | ⟨g20, h⟩
    · refine condFP (Wp.skip (blockN (seqN ?_)))
      refine regP (loopN ?_)
      exact jumpL [.kill [18, 71, 84], .tidy] (hrec_m_law10_EvalAsks_l1 h)
    · refine condTP (Wp.seq (Wp.reg ?_))
      replace h := bndS h; obtain ⟨r0_11, g21, h⟩ := h
      replace h := retS h; subst h
      refine chunkT 1 (tab_cons (w_m_law10_works g21) (tab_nil _)) ?_
      refine lastT (tab_nil _) (seqN (Wp.ret (blockR (seqR (loopR (blockR (seqR ?_)))))))
      exact finP
  · refine condFP (Wp.out (seqO (loopO (blockO (seqN ?_)))))
    exact jumpK [.kill [5, 15, 16, 71], .tidy] (w_m_law10_EvalAsks_k3 h)
theorem w_m_law10_EvalAsks_l1 {v : TVars} {r0_7 : (TValue × Int)} {r0_9 : (List ByteArray)} {r : Bool}   : ∀ (n : Nat) {i : Int}, m_law10_EvalAsks_l1  v r0_7 r0_9 n i = some r → LWp Pg 91 0 i7_L0 ⟨[(0, .bad), (1, .bad), (2, .bad), (3, .bad), (4, .bad), (5, .ptr 0 0), (8, .bad), (9, .bad), (10, .bad), (11, .bad), (12, .int .i64 r0_7.2), (13, .bad), (14, .bad), (15, sl cs r0_9), (16, .int .i64 i), (18, .bad), (32, .bad), (44, .bad), (65, .bad), (71, .bad), (84, .bad)], [], [(0, .box [sl cs v.Names, sl (ci .i64) v.Vals])], 1⟩ (blockQ 0 (seqQ Pg 91 0 (.seq (.reg none i7_R17) .ret) (qf_7 r))) := by
  intro n
  induction n with
  | zero => intro i h; unfold m_law10_EvalAsks_l1 at h; cases h
  | succ n ih => intro i h; unfold m_law10_EvalAsks_l1 at h; exact w_m_law10_EvalAsks_l1_B  ih h
theorem w_m_law10_EvalAsks_k2 {x0 : TExpr} {v : TVars} {r0_7 : (TValue × Int)} {v65 : Bool} {r : Bool}   (h : m_law10_EvalAsks_k2 x0 v r0_7 v65 = some r) : Wp Pg 91 0 (.cond (.t 65) (.seq (.reg none i7_R9) .ret) .skip) ⟨[(0, .bad), (1, .bad), (2, .bad), (3, .bad), (4, .ptr 0 0), (5, .ptr 1 0), (8, .bad), (9, .bad), (10, .bad), (11, .bad), (12, .int .i64 r0_7.2), (13, .bad), (14, .bad), (15, .bad), (16, .bad), (18, .bad), (32, .bad), (44, .bad), (65, .bool v65), (71, .bad), (84, .bad)], [], [(0, .box [.int .i64 x0.Kind, .int .i64 x0.N, .str x0.Name, sl TExpr.c x0.Kids]), (1, .box [sl cs v.Names, sl (ci .i64) v.Vals])], 2⟩ (seqQ Pg 91 0 (.seq (.reg none i7_R10) (.seq (.seq (.reg none i7_R11) (.block 0 (.loop i7_L0))) (.seq (.reg none i7_R17) .ret))) (qf_7 r)) := by
  unfold m_law10_EvalAsks_k2 at h
  replace h := ifS h; rcases h with ⟨g15, h⟩ | ⟨g15, h⟩
  · replace h := retS h; subst h
    refine condTP (Wp.seq ?_)
    refine regP (seqN (Wp.ret (seqR ?_)))
    exact finP
  · refine condFP (Wp.skip (seqN (Wp.seq (Wp.reg ?_))))
    replace h := bndS h; obtain ⟨r0_9, g16, h⟩ := h
    refine chunkT 2 (tab_cons (w_m_ref08_Names g16) (tab_nil _)) ?_
    refine lastT (tab_nil _) (seqN (Wp.seq (Wp.seq ?_)))
    refine regP (seqN (Wp.block (Wp.loop ?_)))
    exact jumpL [.kill [4, 65], .tidy] (w_m_law10_EvalAsks_l1 _ h)
theorem w_m_law10_EvalAsks_k1 {x0 : TExpr} {v : TVars} {name : ByteArray} {n0 : Int} {v32 : Bool} {r : Bool}   (h : m_law10_EvalAsks_k1 x0 v name n0 v32 = some r) : Wp Pg 91 0 (.cond (.t 32) (.seq (.reg none i7_R2) .ret) .skip) ⟨[(0, .bad), (1, .bad), (2, .str name), (3, .int .i64 n0), (4, .ptr 0 0), (5, .ptr 1 0), (8, .bad), (9, .bad), (10, .bad), (11, .bad), (12, .bad), (13, .bad), (14, .bad), (15, .bad), (16, .bad), (18, .bad), (32, .bool v32), (44, .bad), (65, .bad), (71, .bad), (84, .bad)], [], [(0, .box [.int .i64 x0.Kind, .int .i64 x0.N, .str x0.Name, sl TExpr.c x0.Kids]), (1, .box [sl cs v.Names, sl (ci .i64) v.Vals])], 2⟩ (seqQ Pg 91 0 (.seq (.reg (some []) i7_R3) (.seq (.seq (.reg none i7_R4) (.cond (.t 44) (.seq (.reg none i7_R5) .ret) .skip)) (.seq (.reg none i7_R6) (.seq (.reg none i7_R7) (.seq (.seq (.reg none i7_R8) (.cond (.t 65) (.seq (.reg none i7_R9) .ret) .skip)) (.seq (.reg none i7_R10) (.seq (.seq (.reg none i7_R11) (.block 0 (.loop i7_L0))) (.seq (.reg none i7_R17) .ret)))))))) (qf_7 r)) := by
  unfold m_law10_EvalAsks_k1 at h
  replace h := ifS h; rcases h with ⟨g6, h⟩ | ⟨g6, h⟩
  · refine condTP (Wp.seq (Wp.reg ?_))
    replace h := bndS h; obtain ⟨r0_3, g7, h⟩ := h
    replace h := retS h; subst h
    refine chunkT 1 (tab_cons (w_m_law10_works g7) (tab_nil _)) ?_
    refine lastT (tab_nil _) (seqN (Wp.ret (seqR ?_)))
    exact finP
  · refine condFP (Wp.skip (seqN (Wp.seq ?_)))
    replace h := bndS h; obtain ⟨r0_4, g8, h⟩ := h
    replace h := bndS h; obtain ⟨r0_5, g9, h⟩ := h
    refine drawP mixed (tab_cons (w_m_ref09_One g8) (tab_cons (w_m_ref09_Of g9) (tab_nil _))) (seqN (Wp.seq (Wp.seq ?_)))
    refine regP (seqN ?_)
    replace h := ifS h; rcases h with ⟨g10, h⟩ | ⟨g10, h⟩
    · refine condTP (Wp.seq (Wp.reg ?_))
      replace h := bndS h; obtain ⟨r0_6, g11, h⟩ := h
      replace h := retS h; subst h
      refine chunkT 1 (tab_cons (w_m_law10_works g11) (tab_nil _)) ?_
      refine lastT (tab_nil _) (seqN (Wp.ret (seqR ?_)))
      exact finP
    · refine condFP (Wp.skip (seqN (Wp.seq (Wp.reg ?_))))
      replace h := bndS h; obtain ⟨r0_7, g12, h⟩ := h
      refine chunkT 3 (tab_cons (w_m_eval_Of g12) (tab_nil _)) ?_
      refine lastT (tab_nil _) (seqN (Wp.seq (Wp.reg ?_)))
      replace h := bndS h; obtain ⟨r0_8, g13, h⟩ := h
      refine chunkT 3 (tab_cons (w_m_eval_Of g13) (tab_nil _)) ?_
      refine lastT (tab_nil _) (seqN (Wp.seq (Wp.seq ?_)))
      replace h := ifS h; rcases h with ⟨g14, h⟩ | ⟨g14, h⟩
      · refine regP (seqN ?_)
        exact jumpK [.kill [2, 3, 9, 10, 11, 13, 14, 32, 44], .tidy] (w_m_law10_EvalAsks_k2 h)
      · refine regP (seqN ?_)
        exact jumpK [.kill [2, 3, 9, 10, 11, 13, 14, 32, 44], .tidy] (w_m_law10_EvalAsks_k2 h)
theorem w_m_law10_EvalAsks {x0 : TExpr} {v : TVars} {name : ByteArray} {n0 : Int} {r : Bool}   (h : m_law10_EvalAsks x0 v name n0 = some r) : Spec Pg 7 [.agg [.int .i64 x0.Kind, .int .i64 x0.N, .str x0.Name, sl TExpr.c x0.Kids], .agg [sl cs v.Names, sl (ci .i64) v.Vals], .str name, .int .i64 n0] [] 0 (.bool r) [] 0 := by
  refine Spec.intro Go.Proofs.Try.func7 i7_ok (le_of_ble rfl) ?_
  show Wp Pg 91 0 i7_B ⟨argEnv [.agg [.int .i64 x0.Kind, .int .i64 x0.N, .str x0.Name, sl TExpr.c x0.Kids], .agg [sl cs v.Names, sl (ci .i64) v.Vals], .str name, .int .i64 n0] i7_V, [], [], 0⟩ (qf_7 r)
  unfold m_law10_EvalAsks at h
  unfold i7_B
  refine weakP [] ?_
  refine Wp.seq (regP (seqN (Wp.seq (Wp.seq (Wp.reg ?_)))))
  replace h := bndS h; obtain ⟨r0, g1, h⟩ := h
  refine chunkT 3 (tab_cons (w_m_law10_light g1) (tab_nil _)) ?_
  replace h := ifS h; rcases h with ⟨g2, h⟩ | ⟨g2, h⟩
  · replace h := bndS h; obtain ⟨r0_1, g3, h⟩ := h
    refine chunkT 5 (tab_cons (w_m_ref08_Asks g3) (tab_nil _)) ?_
    replace h := ifS h; rcases h with ⟨g4, h⟩ | ⟨g4, h⟩
    · refine lastT (tab_nil _) (seqN ?_)
      exact jumpK [.kill [0, 1, 8, 9, 10, 11, 12, 13, 14, 15, 16, 18, 44, 65, 71, 84], .tidy] (w_m_law10_EvalAsks_k1 h)
    · replace h := bndS h; obtain ⟨r0_2, g5, h⟩ := h
      refine chunkT 4 (tab_cons (w_m_ref09_Check g5) (tab_nil _)) ?_
      refine lastT (tab_nil _) (seqN ?_)
      exact jumpK [.kill [0, 1, 8, 9, 10, 11, 12, 13, 14, 15, 16, 18, 44, 65, 71, 84], .tidy] (w_m_law10_EvalAsks_k1 h)
  · refine lastT (tab_nil _) (seqN ?_)
    exact jumpK [.kill [0, 1, 8, 9, 10, 11, 12, 13, 14, 15, 16, 18, 44, 65, 71, 84], .tidy] (w_m_law10_EvalAsks_k1 h)
/-! funicular/funicularlaw10.EvalRenames -/
noncomputable abbrev qf_8 (r : Bool) : Ex → St → Prop := FinQ 0 [.tmp 8] (.bool r) [] 0
theorem w_m_law10_EvalRenames_k2 {x0 : TExpr} {v : TVars} {to0 : ByteArray} {r0_4 : (TExpr × Int)} {r0_5 : (Int × Bool)} {v52 : Bool} {r : Bool}   (h : m_law10_EvalRenames_k2 x0 v to0 r0_4 r0_5 v52 = some r) : Wp Pg 89 0 (.cond (.t 52) (.seq (.reg none i8_R6) .ret) .skip) ⟨[(0, .bad), (1, .bad), (2, .bad), (3, .str to0), (4, .ptr 0 0), (5, .ptr 1 0), (8, .bad), (9, .ptr 2 0), (10, .bad), (11, .int .i64 r0_5.1), (12, .bad), (13, .bad), (14, .bad), (15, .bad), (16, .bad), (17, .bad), (18, .bad), (32, .bad), (52, .bool v52), (64, .bad)], [], [(0, .box [.int .i64 x0.Kind, .int .i64 x0.N, .str x0.Name, sl TExpr.c x0.Kids]), (1, .box [sl cs v.Names, sl (ci .i64) v.Vals]), (2, .box [.int .i64 r0_4.1.Kind, .int .i64 r0_4.1.N, .str r0_4.1.Name, sl TExpr.c r0_4.1.Kids])], 3⟩ (seqQ Pg 89 0 (.seq (.reg (some []) i8_R7) (.seq (.seq (.reg none i8_R8) (.cond (.t 64) (.seq (.reg none i8_R9) .ret) .skip)) (.seq (.reg none i8_R10) (.seq (.reg none i8_R11) (.seq (.reg none i8_R12) .ret))))) (qf_8 r)) := by
  unfold m_law10_EvalRenames_k2 at h
  replace h := ifS h; rcases h with ⟨g11, h⟩ | ⟨g11, h⟩
  · refine condTP (Wp.seq (Wp.reg ?_))
    replace h := bndS h; obtain ⟨r0_6, g12, h⟩ := h
    replace h := retS h; subst h
    refine chunkT 1 (tab_cons (w_m_law10_works g12) (tab_nil _)) ?_
    refine lastT (tab_nil _) (seqN (Wp.ret (seqR ?_)))
    exact finP
  · refine condFP (Wp.skip (seqN (Wp.seq ?_)))
    replace h := bndS h; obtain ⟨r0_7, g13, h⟩ := h
    replace h := bndS h; obtain ⟨r0_8, g14, h⟩ := h
    refine drawP mixed (tab_cons (w_m_ref09_One g13) (tab_cons (w_m_ref09_Of g14) (tab_nil _))) (seqN (Wp.seq (Wp.seq ?_)))
    refine regP (seqN ?_)
    replace h := ifS h; rcases h with ⟨g15, h⟩ | ⟨g15, h⟩
    · refine condTP (Wp.seq (Wp.reg ?_))
      replace h := bndS h; obtain ⟨r0_9, g16, h⟩ := h
      replace h := retS h; subst h
      refine chunkT 1 (tab_cons (w_m_law10_works g16) (tab_nil _)) ?_
      refine lastT (tab_nil _) (seqN (Wp.ret (seqR ?_)))
      exact finP
    · refine condFP (Wp.skip (seqN (Wp.seq (Wp.reg ?_))))
      replace h := bndS h; obtain ⟨r0_10, g17, h⟩ := h
      refine chunkT 3 (tab_cons (w_m_eval_Of g17) (tab_nil _)) ?_
      refine lastT (tab_nil _) (seqN (Wp.seq (Wp.reg ?_)))
      replace h := bndS h; obtain ⟨r0_11, g18, h⟩ := h
      refine chunkT 3 (tab_cons (w_m_eval_Of g18) (tab_nil _)) ?_
      refine lastT (tab_nil _) (seqN (Wp.seq (Wp.reg ?_)))
      replace h := ifS h; rcases h with ⟨g19, h⟩ | ⟨g19, h⟩
      · replace h := ifS h; rcases h with ⟨g20, h⟩ | ⟨g20, h⟩
        · replace h := bndS h; obtain ⟨r0_12, g21, h⟩ := h
          replace h := retS h; subst h
          refine chunkT 10 (tab_cons (w_m_law10_works g21) (tab_nil _)) ?_
          refine lastT (tab_nil _) (seqN (Wp.ret ?_))
          exact finP
        · replace h := retS h; subst h
          refine lastT (tab_nil _) (seqN (Wp.ret ?_))
          exact finP
      · replace h := retS h; subst h
        refine lastT (tab_nil _) (seqN (Wp.ret ?_))
        exact finP
theorem w_m_law10_EvalRenames_k1 {x0 : TExpr} {v : TVars} {from0 : ByteArray} {to0 : ByteArray} {v32 : Bool} {r : Bool}   (h : m_law10_EvalRenames_k1 x0 v from0 to0 v32 = some r) : Wp Pg 89 0 (.cond (.t 32) (.seq (.reg none i8_R2) .ret) .skip) ⟨[(0, .bad), (1, .bad), (2, .str from0), (3, .str to0), (4, .ptr 0 0), (5, .ptr 1 0), (8, .bad), (9, .bad), (10, .bad), (11, .bad), (12, .bad), (13, .bad), (14, .bad), (15, .bad), (16, .bad), (17, .bad), (18, .bad), (32, .bool v32), (52, .bad), (64, .bad)], [], [(0, .box [.int .i64 x0.Kind, .int .i64 x0.N, .str x0.Name, sl TExpr.c x0.Kids]), (1, .box [sl cs v.Names, sl (ci .i64) v.Vals])], 2⟩ (seqQ Pg 89 0 (.seq (.reg none i8_R3) (.seq (.reg none i8_R4) (.seq (.seq (.reg none i8_R5) (.cond (.t 52) (.seq (.reg none i8_R6) .ret) .skip)) (.seq (.reg (some []) i8_R7) (.seq (.seq (.reg none i8_R8) (.cond (.t 64) (.seq (.reg none i8_R9) .ret) .skip)) (.seq (.reg none i8_R10) (.seq (.reg none i8_R11) (.seq (.reg none i8_R12) .ret)))))))) (qf_8 r)) := by
  unfold m_law10_EvalRenames_k1 at h
  replace h := ifS h; rcases h with ⟨g6, h⟩ | ⟨g6, h⟩
  · refine condTP (Wp.seq (Wp.reg ?_))
    replace h := bndS h; obtain ⟨r0_3, g7, h⟩ := h
    replace h := retS h; subst h
    refine chunkT 1 (tab_cons (w_m_law10_works g7) (tab_nil _)) ?_
    refine lastT (tab_nil _) (seqN (Wp.ret (seqR ?_)))
    exact finP
  · refine condFP (Wp.skip (seqN (Wp.seq (Wp.reg ?_))))
    replace h := bndS h; obtain ⟨r0_4, g8, h⟩ := h
    refine chunkT 4 (tab_cons (w_m_ref08_Rename g8) (tab_nil _)) ?_
    refine lastT (tab_nil _) (seqN (Wp.seq (Wp.reg ?_)))
    replace h := bndS h; obtain ⟨r0_5, g9, h⟩ := h
    refine chunkT 3 (tab_cons (w_m_ref09_Get g9) (tab_nil _)) ?_
    refine lastT (tab_nil _) (seqN (Wp.seq (Wp.seq ?_)))
    replace h := ifS h; rcases h with ⟨g10, h⟩ | ⟨g10, h⟩
    · refine regP (seqN ?_)
      exact jumpK [.kill [2, 10, 12, 32], .tidy] (w_m_law10_EvalRenames_k2 h)
    · refine regP (seqN ?_)
      exact jumpK [.kill [2, 10, 12, 32], .tidy] (w_m_law10_EvalRenames_k2 h)
theorem w_m_law10_EvalRenames {x0 : TExpr} {v : TVars} {from0 : ByteArray} {to0 : ByteArray} {r : Bool}   (h : m_law10_EvalRenames x0 v from0 to0 = some r) : Spec Pg 8 [.agg [.int .i64 x0.Kind, .int .i64 x0.N, .str x0.Name, sl TExpr.c x0.Kids], .agg [sl cs v.Names, sl (ci .i64) v.Vals], .str from0, .str to0] [] 0 (.bool r) [] 0 := by
  refine Spec.intro Go.Proofs.Try.func8 i8_ok (le_of_ble rfl) ?_
  show Wp Pg 89 0 i8_B ⟨argEnv [.agg [.int .i64 x0.Kind, .int .i64 x0.N, .str x0.Name, sl TExpr.c x0.Kids], .agg [sl cs v.Names, sl (ci .i64) v.Vals], .str from0, .str to0] i8_V, [], [], 0⟩ (qf_8 r)
  unfold m_law10_EvalRenames at h
  unfold i8_B
  refine weakP [] ?_
  refine Wp.seq (regP (seqN (Wp.seq (Wp.seq (Wp.reg ?_)))))
  replace h := bndS h; obtain ⟨r0, g1, h⟩ := h
  refine chunkT 3 (tab_cons (w_m_law10_light g1) (tab_nil _)) ?_
  replace h := ifS h; rcases h with ⟨g2, h⟩ | ⟨g2, h⟩
  · replace h := bndS h; obtain ⟨r0_1, g3, h⟩ := h
    refine chunkT 4 (tab_cons (w_m_ref09_Check g3) (tab_nil _)) ?_
    replace h := ifS h; rcases h with ⟨g4, h⟩ | ⟨g4, h⟩
    · refine lastT (tab_nil _) (seqN ?_)
      exact jumpK [.kill [0, 1, 8, 9, 10, 11, 12, 13, 14, 15, 16, 17, 18, 52, 64], .tidy] (w_m_law10_EvalRenames_k1 h)
    · replace h := bndS h; obtain ⟨r0_2, g5, h⟩ := h
      refine chunkT 6 (tab_cons (w_m_ref08_Asks g5) (tab_nil _)) ?_
      refine lastT (tab_nil _) (seqN ?_)
      exact jumpK [.kill [0, 1, 8, 9, 10, 11, 12, 13, 14, 15, 16, 17, 18, 52, 64], .tidy] (w_m_law10_EvalRenames_k1 h)
  · refine lastT (tab_nil _) (seqN ?_)
    exact jumpK [.kill [0, 1, 8, 9, 10, 11, 12, 13, 14, 15, 16, 17, 18, 52, 64], .tidy] (w_m_law10_EvalRenames_k1 h)
end Go.Proofs.Ytcmejocmohohpaa.R
