/- The program's functions answer what the models answer: 2. -/
import Derived.Test.YtcmejocmohohpaaMW0
import Derived.Test.YtcmejocmohohpaaMW1
set_option maxRecDepth 100000
set_option linter.unusedVariables false
set_option linter.unusedSimpArgs false
noncomputable section
namespace Go.Proofs.Ytcmejocmohohpaa.R
open Go Nat
/-! funicular/eval.of$1 -/
noncomputable abbrev qf_46_v0 (b0 : TExpr) (b1 : TVars) (r : (Int × Int)) : Ex → St → Prop := FinQ 2 [.tmp 4, .tmp 5] (.tup [.int .i64 r.1, .int .i64 r.2]) [(0, .box [.int .i64 b0.Kind, .int .i64 b0.N, .str b0.Name, sl TExpr.c b0.Kids]), (1, .box [sl cs b1.Names, sl (ci .i64) b1.Vals])] 2
theorem w_m_eval_of_1_B {i : Int} {b0 : TExpr} {b1 : TVars} {r : (Int × Int)} {rec_m_eval_of : TExpr → TVars → Option (TValue × Int)} (hrec_m_eval_of : ∀ {x0 : TExpr} {v : TVars} {r : (TValue × Int)}, rec_m_eval_of x0 v = some r → Spec Pg 28 [.agg [.int .i64 x0.Kind, .int .i64 x0.N, .str x0.Name, sl TExpr.c x0.Kids], .agg [sl cs v.Names, sl (ci .i64) v.Vals]] [] 0 (.tup [.agg [.bool r.1.Bool, .int .i64 r.1.N], .int .i64 r.2]) [] 0) (h : m_eval_of_1_B rec_m_eval_of i b0 b1 = some r) : Spec Pg 46 [.int .i64 i, .ptr 0 0, .ptr 1 0] [(0, .box [.int .i64 b0.Kind, .int .i64 b0.N, .str b0.Name, sl TExpr.c b0.Kids]), (1, .box [sl cs b1.Names, sl (ci .i64) b1.Vals])] 2 (.tup [.int .i64 r.1, .int .i64 r.2]) [(0, .box [.int .i64 b0.Kind, .int .i64 b0.N, .str b0.Name, sl TExpr.c b0.Kids]), (1, .box [sl cs b1.Names, sl (ci .i64) b1.Vals])] 2 := by
  refine Spec.intro Go.Proofs.Try.func46 i46_ok (le_of_ble rfl) ?_
  show Wp Pg 21 2 i46_B ⟨argEnv [.int .i64 i, .ptr 0 0, .ptr 1 0] i46_V, [], [(0, .box [.int .i64 b0.Kind, .int .i64 b0.N, .str b0.Name, sl TExpr.c b0.Kids]), (1, .box [sl cs b1.Names, sl (ci .i64) b1.Vals])], 2⟩ (qf_46_v0 b0 b1 r)
  unfold m_eval_of_1_B at h
  unfold i46_B
  refine weakP [] ?_
  refine Wp.seq (regP (seqN (Wp.seq ?_)))
  replace h := bndS h; obtain ⟨e, g1, h⟩ := h
  replace h := bndS h; obtain ⟨r0, g2, h⟩ := h
  replace h := retS h; subst h
  refine drawP mixed (tab_cons (hrec_m_eval_of g2) (tab_nil _)) (seqN (Wp.seq ?_))
  refine regP (seqN (Wp.ret ?_))
  exact finP
/-! funicular/eval.of -/
noncomputable abbrev qf_28 (r : (TValue × Int)) : Ex → St → Prop := FinQ 0 [.cell 4 true 2, .tmp 5] (.tup [.agg [.bool r.1.Bool, .int .i64 r.1.N], .int .i64 r.2]) [] 0
theorem w_m_eval_of_k5 {x0 : TExpr} {r0_2 : (Int × Int)} {r0_5 : (Int × Int)} {v103 : Bool} {r : (TValue × Int)}   (h : m_eval_of_k5 x0 r0_2 r0_5 v103 = some r) : Wp Pg 132 0 (.cond (.t 103) (.seq (.reg none i28_R31) .ret) (.seq (.reg none i28_R32) (.cond (.t 109) (.seq (.reg none i28_R33) .ret) (.seq (.reg none i28_R34) (.cond (.t 115) (.seq (.reg none i28_R35) .ret) .skip))))) ⟨[(0, .bad), (1, .bad), (2, .ptr 0 0), (3, .bad), (4, .ptr 1 0), (5, .bad), (6, .bad), (7, .bad), (8, .bad), (9, .int .i64 r0_2.1), (10, .bad), (11, .int .i64 r0_5.1), (12, .bad), (15, .bad), (16, .bad), (21, .bad), (28, .bad), (38, .bad), (48, .bad), (51, .bad), (58, .bad), (67, .bad), (74, .bad), (98, .bad), (102, .int .i64 x0.Kind), (103, .bool v103), (109, .bad), (115, .bad)], [], [(0, .box [.int .i64 x0.Kind, .int .i64 x0.N, .str x0.Name, sl TExpr.c x0.Kids]), (1, .box [.bool false, .int .i64 (0 : Int)])], 2⟩ (blockQ 2 (seqQ Pg 132 0 (.seq (.reg none i28_R36) (.seq (.reg none i28_R37) .ret)) (qf_28 r))) := by
  unfold m_eval_of_k5 at h
  replace h := ifS h; rcases h with ⟨g23, h⟩ | ⟨g23, h⟩
  · refine condTP (Wp.seq (Wp.reg ?_))
    replace h := bndS h; obtain ⟨r0_6, g24, h⟩ := h
    replace h := retS h; subst h
    refine chunkT 3 (tab_cons (w_m_eval_truth g24) (tab_nil _)) ?_
    refine lastT (tab_nil _) (seqN (Wp.ret (blockR (seqR ?_))))
    exact finP
  · refine condFP (Wp.seq ?_)
    refine regP (seqN ?_)
    replace h := ifS h; rcases h with ⟨g25, h⟩ | ⟨g25, h⟩
    · refine condTP (Wp.seq (Wp.reg ?_))
      replace h := bndS h; obtain ⟨r0_7, g26, h⟩ := h
      replace h := retS h; subst h
      refine chunkT 4 (tab_cons (w_m_eval_truth g26) (tab_nil _)) ?_
      refine lastT (tab_nil _) (seqN (Wp.ret (blockR (seqR ?_))))
      exact finP
    · refine condFP (Wp.seq ?_)
      refine regP (seqN ?_)
      replace h := ifS h; rcases h with ⟨g27, h⟩ | ⟨g27, h⟩
      · refine condTP (Wp.seq (Wp.reg ?_))
        replace h := bndS h; obtain ⟨r0_8, g28, h⟩ := h
        replace h := retS h; subst h
        refine chunkT 4 (tab_cons (w_m_eval_truth g28) (tab_nil _)) ?_
        refine lastT (tab_nil _) (seqN (Wp.ret (blockR (seqR ?_))))
        exact finP
      · refine condFP (Wp.skip (blockN (seqN (Wp.seq (Wp.reg ?_)))))
        replace h := bndS h; obtain ⟨r0_9, g29, h⟩ := h
        replace h := retS h; subst h
        refine chunkT 5 (tab_cons (w_m_eval_number g29) (tab_nil _)) ?_
        refine lastT (tab_nil _) (seqN (Wp.seq ?_))
        refine regP (seqN (Wp.ret ?_))
        exact finP
theorem w_m_eval_of_k4 {x0 : TExpr} {v : TVars} {r0_2 : (Int × Int)} {v74_1 : Bool} {r : (TValue × Int)} {rec_m_eval_of_1 : Int → TExpr → TVars → Option (Int × Int)} (hrec_m_eval_of_1 : ∀ {i : Int} {b0 : TExpr} {b1 : TVars} {r : (Int × Int)}, rec_m_eval_of_1 i b0 b1 = some r → Spec Pg 46 [.int .i64 i, .ptr 0 0, .ptr 1 0] [(0, .box [.int .i64 b0.Kind, .int .i64 b0.N, .str b0.Name, sl TExpr.c b0.Kids]), (1, .box [sl cs b1.Names, sl (ci .i64) b1.Vals])] 2 (.tup [.int .i64 r.1, .int .i64 r.2]) [(0, .box [.int .i64 b0.Kind, .int .i64 b0.N, .str b0.Name, sl TExpr.c b0.Kids]), (1, .box [sl cs b1.Names, sl (ci .i64) b1.Vals])] 2) (h : m_eval_of_k4 rec_m_eval_of_1 x0 v r0_2 v74_1 = some r) : Wp Pg 132 0 (.cond (.t 74) (.seq (.reg none i28_R24) .ret) .skip) ⟨[(0, .bad), (1, .bad), (2, .ptr 0 0), (3, .bad), (4, .ptr 1 0), (5, .bad), (6, .fn (.func 46) [] [.ptr 0 0, .ptr 2 0]), (7, .bad), (8, .bad), (9, .int .i64 r0_2.1), (10, .bad), (11, .bad), (12, .bad), (15, .bad), (16, .bad), (21, .bad), (28, .bad), (38, .bad), (48, .bad), (51, .bad), (58, .bad), (67, .bad), (74, .bool v74_1), (98, .bad), (102, .bad), (103, .bad), (109, .bad), (115, .bad)], [], [(0, .box [.int .i64 x0.Kind, .int .i64 x0.N, .str x0.Name, sl TExpr.c x0.Kids]), (1, .box [.bool false, .int .i64 (0 : Int)]), (2, .box [sl cs v.Names, sl (ci .i64) v.Vals])], 3⟩ (blockQ 1 (seqQ Pg 132 0 (.seq (.reg none i28_R25) (.seq (.seq (.reg none i28_R26) (.cond (.t 98) (.seq (.reg none i28_R27) .ret) .skip)) (.seq (.seq (.reg none i28_R28) (.block 2 (.seq (.seq (.reg none i28_R29) (.cond (.t 103) .skip (.reg none i28_R30))) (.cond (.t 103) (.seq (.reg none i28_R31) .ret) (.seq (.reg none i28_R32) (.cond (.t 109) (.seq (.reg none i28_R33) .ret) (.seq (.reg none i28_R34) (.cond (.t 115) (.seq (.reg none i28_R35) .ret) .skip)))))))) (.seq (.reg none i28_R36) (.seq (.reg none i28_R37) .ret))))) (qf_28 r))) := by
  unfold m_eval_of_k4 at h
  replace h := ifS h; rcases h with ⟨g18, h⟩ | ⟨g18, h⟩
  · refine condTP (Wp.seq (Wp.reg ?_))
    replace h := bndS h; obtain ⟨r0_4, g19, h⟩ := h
    replace h := retS h; subst h
    refine chunkT 3 (tab_cons (w_m_eval_truth g19) (tab_nil _)) ?_
    refine lastT (tab_nil _) (seqN (Wp.ret (blockR (seqR ?_))))
    exact finP
  · refine condFP (Wp.skip (blockN (seqN (Wp.seq (Wp.reg ?_)))))
    replace h := bndS h; obtain ⟨r0_5, g20, h⟩ := h
    refine chunkF 2 (tab_cons (hrec_m_eval_of_1 g20) (tab_nil _)) ?_
    refine lastT (tab_nil _) (seqN (Wp.seq (Wp.seq ?_)))
    refine regP (seqN ?_)
    replace h := ifS h; rcases h with ⟨g21, h⟩ | ⟨g21, h⟩
    · replace h := retS h; subst h
      refine condTP (Wp.seq ?_)
      refine regP (seqN (Wp.ret (seqR ?_)))
      exact finP
    · refine condFP (Wp.skip (seqN (Wp.seq (Wp.seq ?_))))
      refine regP (seqN (Wp.block (Wp.seq (Wp.seq ?_))))
      refine regP (seqN ?_)
      replace h := ifS h; rcases h with ⟨g22, h⟩ | ⟨g22, h⟩
      · refine condTP (Wp.skip (seqN ?_))
        exact jumpK [.kill [6, 10, 74, 98], .tidy] (w_m_eval_of_k5 h)
      · refine condFP ?_
        refine regP (seqN ?_)
        exact jumpK [.kill [6, 10, 74, 98], .tidy] (w_m_eval_of_k5 h)
theorem w_m_eval_of_k3 {x0 : TExpr} {v : TVars} {r0_2 : (Int × Int)} {v74 : Bool} {r : (TValue × Int)} {rec_m_eval_of_1 : Int → TExpr → TVars → Option (Int × Int)} (hrec_m_eval_of_1 : ∀ {i : Int} {b0 : TExpr} {b1 : TVars} {r : (Int × Int)}, rec_m_eval_of_1 i b0 b1 = some r → Spec Pg 46 [.int .i64 i, .ptr 0 0, .ptr 1 0] [(0, .box [.int .i64 b0.Kind, .int .i64 b0.N, .str b0.Name, sl TExpr.c b0.Kids]), (1, .box [sl cs b1.Names, sl (ci .i64) b1.Vals])] 2 (.tup [.int .i64 r.1, .int .i64 r.2]) [(0, .box [.int .i64 b0.Kind, .int .i64 b0.N, .str b0.Name, sl TExpr.c b0.Kids]), (1, .box [sl cs b1.Names, sl (ci .i64) b1.Vals])] 2) (h : m_eval_of_k3 rec_m_eval_of_1 x0 v r0_2 v74 = some r) : Wp Pg 132 0 (.cond (.t 74) .skip (.reg none i28_R23)) ⟨[(0, .bad), (1, .bad), (2, .ptr 0 0), (3, .bad), (4, .ptr 1 0), (5, .bad), (6, .fn (.func 46) [] [.ptr 0 0, .ptr 2 0]), (7, .bad), (8, .bad), (9, .int .i64 r0_2.1), (10, .bad), (11, .bad), (12, .bad), (15, .bad), (16, .bad), (21, .bad), (28, .bad), (38, .bad), (48, .bad), (51, .bad), (58, .bad), (67, .bad), (74, .bool v74), (98, .bad), (102, .bad), (103, .bad), (109, .bad), (115, .bad)], [], [(0, .box [.int .i64 x0.Kind, .int .i64 x0.N, .str x0.Name, sl TExpr.c x0.Kids]), (1, .box [.bool false, .int .i64 (0 : Int)]), (2, .box [sl cs v.Names, sl (ci .i64) v.Vals])], 3⟩ (seqQ Pg 132 0 (.cond (.t 74) (.seq (.reg none i28_R24) .ret) .skip) (blockQ 1 (seqQ Pg 132 0 (.seq (.reg none i28_R25) (.seq (.seq (.reg none i28_R26) (.cond (.t 98) (.seq (.reg none i28_R27) .ret) .skip)) (.seq (.seq (.reg none i28_R28) (.block 2 (.seq (.seq (.reg none i28_R29) (.cond (.t 103) .skip (.reg none i28_R30))) (.cond (.t 103) (.seq (.reg none i28_R31) .ret) (.seq (.reg none i28_R32) (.cond (.t 109) (.seq (.reg none i28_R33) .ret) (.seq (.reg none i28_R34) (.cond (.t 115) (.seq (.reg none i28_R35) .ret) .skip)))))))) (.seq (.reg none i28_R36) (.seq (.reg none i28_R37) .ret))))) (qf_28 r)))) := by
  unfold m_eval_of_k3 at h
  replace h := ifS h; rcases h with ⟨g16, h⟩ | ⟨g16, h⟩
  · refine condTP (Wp.skip (seqN ?_))
    exact jumpK [] (w_m_eval_of_k4 hrec_m_eval_of_1 h)
  · refine condFP ?_
    replace h := ifS h; rcases h with ⟨g17, h⟩ | ⟨g17, h⟩
    · refine regP (seqN ?_)
      exact jumpK [] (w_m_eval_of_k4 hrec_m_eval_of_1 h)
    · refine regP (seqN ?_)
      exact jumpK [] (w_m_eval_of_k4 hrec_m_eval_of_1 h)
theorem w_m_eval_of_k2 {x0 : TExpr} {v : TVars} {r0_2 : (Int × Int)} {v58 : Bool} {r : (TValue × Int)} {rec_m_eval_of_1 : Int → TExpr → TVars → Option (Int × Int)} (hrec_m_eval_of_1 : ∀ {i : Int} {b0 : TExpr} {b1 : TVars} {r : (Int × Int)}, rec_m_eval_of_1 i b0 b1 = some r → Spec Pg 46 [.int .i64 i, .ptr 0 0, .ptr 1 0] [(0, .box [.int .i64 b0.Kind, .int .i64 b0.N, .str b0.Name, sl TExpr.c b0.Kids]), (1, .box [sl cs b1.Names, sl (ci .i64) b1.Vals])] 2 (.tup [.int .i64 r.1, .int .i64 r.2]) [(0, .box [.int .i64 b0.Kind, .int .i64 b0.N, .str b0.Name, sl TExpr.c b0.Kids]), (1, .box [sl cs b1.Names, sl (ci .i64) b1.Vals])] 2) (h : m_eval_of_k2 rec_m_eval_of_1 x0 v r0_2 v58 = some r) : Wp Pg 132 0 (.cond (.t 58) (.seq (.reg none i28_R19) .ret) (.seq (.reg none i28_R20) (.cond (.t 67) (.seq (.reg none i28_R21) .ret) (.seq (.seq (.reg none i28_R22) (.cond (.t 74) .skip (.reg none i28_R23))) (.cond (.t 74) (.seq (.reg none i28_R24) .ret) .skip))))) ⟨[(0, .bad), (1, .bad), (2, .ptr 0 0), (3, .bad), (4, .ptr 1 0), (5, .bad), (6, .fn (.func 46) [] [.ptr 0 0, .ptr 2 0]), (7, .bad), (8, .bad), (9, .int .i64 r0_2.1), (10, .bad), (11, .bad), (12, .bad), (15, .bad), (16, .bad), (21, .bad), (28, .bad), (38, .bad), (48, .bad), (51, .bad), (58, .bool v58), (67, .bad), (74, .bad), (98, .bad), (102, .bad), (103, .bad), (109, .bad), (115, .bad)], [], [(0, .box [.int .i64 x0.Kind, .int .i64 x0.N, .str x0.Name, sl TExpr.c x0.Kids]), (1, .box [.bool false, .int .i64 (0 : Int)]), (2, .box [sl cs v.Names, sl (ci .i64) v.Vals])], 3⟩ (blockQ 1 (seqQ Pg 132 0 (.seq (.reg none i28_R25) (.seq (.seq (.reg none i28_R26) (.cond (.t 98) (.seq (.reg none i28_R27) .ret) .skip)) (.seq (.seq (.reg none i28_R28) (.block 2 (.seq (.seq (.reg none i28_R29) (.cond (.t 103) .skip (.reg none i28_R30))) (.cond (.t 103) (.seq (.reg none i28_R31) .ret) (.seq (.reg none i28_R32) (.cond (.t 109) (.seq (.reg none i28_R33) .ret) (.seq (.reg none i28_R34) (.cond (.t 115) (.seq (.reg none i28_R35) .ret) .skip)))))))) (.seq (.reg none i28_R36) (.seq (.reg none i28_R37) .ret))))) (qf_28 r))) := by
  unfold m_eval_of_k2 at h
  replace h := ifS h; rcases h with ⟨g13, h⟩ | ⟨g13, h⟩
  · replace h := retS h; subst h
    refine condTP (Wp.seq ?_)
    refine regP (seqN (Wp.ret (blockR (seqR ?_))))
    exact finP
  · refine condFP (Wp.seq ?_)
    refine regP (seqN ?_)
    replace h := ifS h; rcases h with ⟨g14, h⟩ | ⟨g14, h⟩
    · replace h := retS h; subst h
      refine condTP (Wp.seq ?_)
      refine regP (seqN (Wp.ret (blockR (seqR ?_))))
      exact finP
    · refine condFP (Wp.seq (Wp.seq ?_))
      replace h := ifS h; rcases h with ⟨g15, h⟩ | ⟨g15, h⟩
      · refine regP (seqN ?_)
        exact jumpK [.kill [58, 67]] (w_m_eval_of_k3 hrec_m_eval_of_1 h)
      · refine regP (seqN ?_)
        exact jumpK [.kill [58, 67]] (w_m_eval_of_k3 hrec_m_eval_of_1 h)
theorem w_m_eval_of_k1 {x0 : TExpr} {v : TVars} {v21 : Bool} {r : (TValue × Int)} {rec_m_eval_of_1 : Int → TExpr → TVars → Option (Int × Int)} (hrec_m_eval_of_1 : ∀ {i : Int} {b0 : TExpr} {b1 : TVars} {r : (Int × Int)}, rec_m_eval_of_1 i b0 b1 = some r → Spec Pg 46 [.int .i64 i, .ptr 0 0, .ptr 1 0] [(0, .box [.int .i64 b0.Kind, .int .i64 b0.N, .str b0.Name, sl TExpr.c b0.Kids]), (1, .box [sl cs b1.Names, sl (ci .i64) b1.Vals])] 2 (.tup [.int .i64 r.1, .int .i64 r.2]) [(0, .box [.int .i64 b0.Kind, .int .i64 b0.N, .str b0.Name, sl TExpr.c b0.Kids]), (1, .box [sl cs b1.Names, sl (ci .i64) b1.Vals])] 2) (h : m_eval_of_k1 rec_m_eval_of_1 x0 v v21 = some r) : Wp Pg 132 0 (.cond (.t 21) (.seq (.reg none i28_R7) .ret) (.seq (.reg none i28_R8) (.cond (.t 28) (.seq (.reg none i28_R9) (.seq (.seq (.reg none i28_R10) (.cond (.t 38) (.seq (.reg none i28_R11) .ret) .skip)) (.seq (.reg none i28_R12) .ret))) .skip))) ⟨[(0, .bad), (1, .bad), (2, .ptr 0 0), (3, .ptr 1 0), (4, .ptr 2 0), (5, .bad), (6, .fn (.func 46) [] [.ptr 0 0, .ptr 1 0]), (7, .bad), (8, .bad), (9, .bad), (10, .bad), (11, .bad), (12, .bad), (15, .int .i64 x0.Kind), (16, .bad), (21, .bool v21), (28, .bad), (38, .bad), (48, .bad), (51, .bad), (58, .bad), (67, .bad), (74, .bad), (98, .bad), (102, .bad), (103, .bad), (109, .bad), (115, .bad)], [], [(0, .box [.int .i64 x0.Kind, .int .i64 x0.N, .str x0.Name, sl TExpr.c x0.Kids]), (1, .box [sl cs v.Names, sl (ci .i64) v.Vals]), (2, .box [.bool false, .int .i64 (0 : Int)])], 3⟩ (blockQ 0 (seqQ Pg 132 0 (.seq (.reg none i28_R13) (.seq (.seq (.reg none i28_R14) (.cond (.t 48) (.seq (.reg none i28_R15) .ret) .skip)) (.seq (.block 1 (.seq (.reg none i28_R16) (.cond (.t 51) (.seq (.reg none i28_R17) .ret) (.seq (.reg none i28_R18) (.cond (.t 58) (.seq (.reg none i28_R19) .ret) (.seq (.reg none i28_R20) (.cond (.t 67) (.seq (.reg none i28_R21) .ret) (.seq (.seq (.reg none i28_R22) (.cond (.t 74) .skip (.reg none i28_R23))) (.cond (.t 74) (.seq (.reg none i28_R24) .ret) .skip))))))))) (.seq (.reg none i28_R25) (.seq (.seq (.reg none i28_R26) (.cond (.t 98) (.seq (.reg none i28_R27) .ret) .skip)) (.seq (.seq (.reg none i28_R28) (.block 2 (.seq (.seq (.reg none i28_R29) (.cond (.t 103) .skip (.reg none i28_R30))) (.cond (.t 103) (.seq (.reg none i28_R31) .ret) (.seq (.reg none i28_R32) (.cond (.t 109) (.seq (.reg none i28_R33) .ret) (.seq (.reg none i28_R34) (.cond (.t 115) (.seq (.reg none i28_R35) .ret) .skip)))))))) (.seq (.reg none i28_R36) (.seq (.reg none i28_R37) .ret)))))))) (qf_28 r))) := by
  unfold m_eval_of_k1 at h
  replace h := ifS h; rcases h with ⟨g3, h⟩ | ⟨g3, h⟩
  · refine condTP (Wp.seq (Wp.reg ?_))
    replace h := bndS h; obtain ⟨r0, g4, h⟩ := h
    replace h := retS h; subst h
    refine chunkT 4 (tab_cons (w_m_eval_truth g4) (tab_nil _)) ?_
    refine lastT (tab_nil _) (seqN (Wp.ret (blockR (seqR ?_))))
    exact finP
  · refine condFP (Wp.seq ?_)
    refine regP (seqN ?_)
    replace h := ifS h; rcases h with ⟨g5, h⟩ | ⟨g5, h⟩
    · refine condTP (Wp.seq (Wp.reg ?_))
      replace h := bndS h; obtain ⟨r0_1, g6, h⟩ := h
      refine chunkT 4 (tab_cons (w_m_vars_Get g6) (tab_nil _)) ?_
      refine lastT (tab_nil _) (seqN (Wp.seq (Wp.seq ?_)))
      refine regP (seqN ?_)
      replace h := ifS h; rcases h with ⟨g7, h⟩ | ⟨g7, h⟩
      · replace h := retS h; subst h
        refine condFP (Wp.skip (seqN (Wp.seq ?_)))
        refine regP (seqN (Wp.ret (blockR (seqR ?_))))
        exact finP
      · replace h := retS h; subst h
        refine condTP (Wp.seq ?_)
        refine regP (seqN (Wp.ret (seqR (blockR (seqR ?_)))))
        exact finP
    · refine condFP (Wp.skip (blockN (seqN (Wp.seq (Wp.reg ?_)))))
      replace h := bndS h; obtain ⟨r0_2, g8, h⟩ := h
      refine chunkF 2 (tab_cons (hrec_m_eval_of_1 g8) (tab_nil _)) ?_
      refine lastT (tab_nil _) (seqN (Wp.seq (Wp.seq ?_)))
      refine regP (seqN ?_)
      replace h := ifS h; rcases h with ⟨g9, h⟩ | ⟨g9, h⟩
      · replace h := retS h; subst h
        refine condTP (Wp.seq ?_)
        refine regP (seqN (Wp.ret (seqR ?_)))
        exact finP
      · refine condFP (Wp.skip (seqN (Wp.seq (Wp.block (Wp.seq ?_)))))
        refine regP (seqN ?_)
        replace h := ifS h; rcases h with ⟨g10, h⟩ | ⟨g10, h⟩
        · refine condTP (Wp.seq (Wp.reg ?_))
          replace h := bndS h; obtain ⟨r0_3, g11, h⟩ := h
          replace h := retS h; subst h
          refine chunkT 3 (tab_cons (w_m_eval_truth g11) (tab_nil _)) ?_
          refine lastT (tab_nil _) (seqN (Wp.ret (blockR (seqR ?_))))
          exact finP
        · refine condFP (Wp.seq ?_)
          replace h := ifS h; rcases h with ⟨g12, h⟩ | ⟨g12, h⟩
          · refine regP (seqN ?_)
            exact jumpK [.kill [3, 10, 15, 21, 28, 48, 51], .tidy] (w_m_eval_of_k2 hrec_m_eval_of_1 h)
          · refine regP (seqN ?_)
            exact jumpK [.kill [3, 10, 15, 21, 28, 48, 51], .tidy] (w_m_eval_of_k2 hrec_m_eval_of_1 h)
theorem w_m_eval_of_B {x0 : TExpr} {v : TVars} {r : (TValue × Int)} {rec_m_eval_of_1 : Int → TExpr → TVars → Option (Int × Int)} (hrec_m_eval_of_1 : ∀ {i : Int} {b0 : TExpr} {b1 : TVars} {r : (Int × Int)}, rec_m_eval_of_1 i b0 b1 = some r → Spec Pg 46 [.int .i64 i, .ptr 0 0, .ptr 1 0] [(0, .box [.int .i64 b0.Kind, .int .i64 b0.N, .str b0.Name, sl TExpr.c b0.Kids]), (1, .box [sl cs b1.Names, sl (ci .i64) b1.Vals])] 2 (.tup [.int .i64 r.1, .int .i64 r.2]) [(0, .box [.int .i64 b0.Kind, .int .i64 b0.N, .str b0.Name, sl TExpr.c b0.Kids]), (1, .box [sl cs b1.Names, sl (ci .i64) b1.Vals])] 2) (h : m_eval_of_B rec_m_eval_of_1 x0 v = some r) : Spec Pg 28 [.agg [.int .i64 x0.Kind, .int .i64 x0.N, .str x0.Name, sl TExpr.c x0.Kids], .agg [sl cs v.Names, sl (ci .i64) v.Vals]] [] 0 (.tup [.agg [.bool r.1.Bool, .int .i64 r.1.N], .int .i64 r.2]) [] 0 := by
  refine Spec.intro Go.Proofs.Try.func28 i28_ok (le_of_ble rfl) ?_
  show Wp Pg 132 0 i28_B ⟨argEnv [.agg [.int .i64 x0.Kind, .int .i64 x0.N, .str x0.Name, sl TExpr.c x0.Kids], .agg [sl cs v.Names, sl (ci .i64) v.Vals]] i28_V, [], [], 0⟩ (qf_28 r)
  unfold m_eval_of_B at h
  unfold i28_B
  refine weakP [] ?_
  refine Wp.seq (regP (seqN (Wp.seq ?_)))
  refine regP (seqN (Wp.seq (Wp.seq ?_)))
  refine regP (seqN (Wp.block (Wp.seq ?_)))
  refine regP (seqN ?_)
  replace h := ifS h; rcases h with ⟨g1, h⟩ | ⟨g1, h⟩
  · replace h := retS h; subst h
    refine condTP (Wp.seq ?_)
    refine regP (seqN (Wp.ret (blockR (seqR ?_))))
    exact finP
  · refine condFP (Wp.seq (Wp.seq ?_))
    refine regP (seqN ?_)
    replace h := ifS h; rcases h with ⟨g2, h⟩ | ⟨g2, h⟩
    · refine condTP (Wp.skip (seqN ?_))
      exact jumpK [.kill [0, 1, 5, 7, 8, 9, 10, 11, 12, 16, 28, 38, 48, 51, 58, 67, 74, 98, 102, 103, 109, 115], .tidy] (w_m_eval_of_k1 hrec_m_eval_of_1 h)
    · refine condFP ?_
      refine regP (seqN ?_)
      exact jumpK [.kill [0, 1, 5, 7, 8, 9, 10, 11, 12, 16, 28, 38, 48, 51, 58, 67, 74, 98, 102, 103, 109, 115], .tidy] (w_m_eval_of_k1 hrec_m_eval_of_1 h)
theorem w_scc_28 : ∀ n : Nat, (∀ {i : Int} {b0 : TExpr} {b1 : TVars} {r : (Int × Int)}, m_eval_of_1 n i b0 b1 = some r → Spec Pg 46 [.int .i64 i, .ptr 0 0, .ptr 1 0] [(0, .box [.int .i64 b0.Kind, .int .i64 b0.N, .str b0.Name, sl TExpr.c b0.Kids]), (1, .box [sl cs b1.Names, sl (ci .i64) b1.Vals])] 2 (.tup [.int .i64 r.1, .int .i64 r.2]) [(0, .box [.int .i64 b0.Kind, .int .i64 b0.N, .str b0.Name, sl TExpr.c b0.Kids]), (1, .box [sl cs b1.Names, sl (ci .i64) b1.Vals])] 2) ∧ (∀ {x0 : TExpr} {v : TVars} {r : (TValue × Int)}, m_eval_of n x0 v = some r → Spec Pg 28 [.agg [.int .i64 x0.Kind, .int .i64 x0.N, .str x0.Name, sl TExpr.c x0.Kids], .agg [sl cs v.Names, sl (ci .i64) v.Vals]] [] 0 (.tup [.agg [.bool r.1.Bool, .int .i64 r.1.N], .int .i64 r.2]) [] 0) := by
  intro n
  induction n with
  | zero => refine ⟨?_, ?_⟩ <;> (intros; rename_i h; first | (simp [m_eval_of_1, m_eval_of] at h; done))
  | succ n ih =>
    refine ⟨?_, ?_⟩
    · intro i b0 b1 r h; unfold m_eval_of_1 at h; exact w_m_eval_of_1_B (ih.2) h
    · intro x0 v r h; unfold m_eval_of at h; exact w_m_eval_of_B (ih.1) h
theorem w_m_eval_of (n : Nat) {x0 : TExpr} {v : TVars} {r : (TValue × Int)} (h : m_eval_of n x0 v = some r) : Spec Pg 28 [.agg [.int .i64 x0.Kind, .int .i64 x0.N, .str x0.Name, sl TExpr.c x0.Kids], .agg [sl cs v.Names, sl (ci .i64) v.Vals]] [] 0 (.tup [.agg [.bool r.1.Bool, .int .i64 r.1.N], .int .i64 r.2]) [] 0 := (w_scc_28 n).2 h
theorem w_m_law10_works {r : Bool} (h : m_law10_works = some r) : Spec Pg 10 [] [] 0 (.bool r) [] 0 := by
  obtain rfl := retS h
  exact m_law10_works_spec
/-! funicular/pack.Name -/
noncomputable abbrev qf_45 (r : Bool) : Ex → St → Prop := FinQ 0 [.tmp 2] (.bool r) [] 0
theorem w_m_pack_Name_k3 {s : ByteArray} {r : Bool}   (h : m_pack_Name_k3 s = some r) : Wp Pg 43 0 (.seq (.reg none i45_R8) .ret) ⟨[(0, .str s), (2, .bad), (3, .bad), (4, .bad), (5, .bad), (7, .bad), (8, .bad), (9, .bad), (10, .bad), (33, .bad)], [], [], 0⟩ (qf_45 r) := by
  unfold m_pack_Name_k3 at h
  refine Wp.seq ?_
  replace h := ifS h; rcases h with ⟨g8, h⟩ | ⟨g8, h⟩
  · replace h := retS h; subst h
    refine regP (seqN (Wp.ret ?_))
    exact finP
  · replace h := retS h; subst h
    refine regP (seqN (Wp.ret ?_))
    exact finP
theorem w_m_pack_Name_k2 {s : ByteArray} {v9 : Int} {v33 : Bool} {r : Bool} {rec_m_pack_Name_l1 : Int → Option Bool} (hrec_m_pack_Name_l1 : ∀ {v9 : Int}, rec_m_pack_Name_l1 v9 = some r → LWp Pg 43 0 i45_L0 ⟨[(0, .str s), (2, .bad), (3, .bad), (4, .bad), (5, .bad), (7, sl (ci .u8) (bytesI s)), (8, .int .i64 (((bytesI s).length : Nat) : Int)), (9, .int .i64 v9), (10, .bad), (33, .bad)], [], [], 0⟩ (blockQ 0 (seqQ Pg 43 0 (.seq (.reg none i45_R8) .ret) (qf_45 r)))) (h : m_pack_Name_k2 rec_m_pack_Name_l1 v9 v33 = some r) : Wp Pg 43 0 (.cond (.t 33) (.seq (.reg none i45_R6) .ret) .skip) ⟨[(0, .str s), (2, .bad), (3, .bad), (4, .bad), (5, .bad), (7, sl (ci .u8) (bytesI s)), (8, .int .i64 (((bytesI s).length : Nat) : Int)), (9, .int .i64 v9), (10, .bad), (33, .bool v33)], [], [], 0⟩ (blockQ 1 (seqQ Pg 43 0 (.reg none i45_R7) (loopQ Pg 43 0 i45_L0 (blockQ 0 (seqQ Pg 43 0 (.seq (.reg none i45_R8) .ret) (qf_45 r)))))) := by
  unfold m_pack_Name_k2 at h
  replace h := ifS h; rcases h with ⟨g7, h⟩ | ⟨g7, h⟩
  · replace h := retS h; subst h
    refine condTP (Wp.seq ?_)
    refine regP (seqN (Wp.ret (blockR (seqR (loopR (blockR (seqR ?_)))))))
    exact finP
  · refine condFP (Wp.skip (blockN (seqN ?_)))
    refine regP (loopN ?_)
    exact jumpL [.kill [33]] (hrec_m_pack_Name_l1 h)
theorem w_m_pack_Name_k1 {s : ByteArray} {v9 : Int} {e : Int} {letter : Bool} {r : Bool} {rec_m_pack_Name_l1 : Int → Option Bool} (hrec_m_pack_Name_l1 : ∀ {v9 : Int}, rec_m_pack_Name_l1 v9 = some r → LWp Pg 43 0 i45_L0 ⟨[(0, .str s), (2, .bad), (3, .bad), (4, .bad), (5, .bad), (7, sl (ci .u8) (bytesI s)), (8, .int .i64 (((bytesI s).length : Nat) : Int)), (9, .int .i64 v9), (10, .bad), (33, .bad)], [], [], 0⟩ (blockQ 0 (seqQ Pg 43 0 (.seq (.reg none i45_R8) .ret) (qf_45 r)))) (h : m_pack_Name_k1 rec_m_pack_Name_l1 v9 e letter = some r) : Wp Pg 43 0 (.seq (.reg none i45_R5) (.cond (.t 33) (.seq (.reg none i45_R6) .ret) .skip)) ⟨[(0, .str s), (2, .bad), (3, .int .i64 v9), (4, .int .u8 e), (5, .bool letter), (7, sl (ci .u8) (bytesI s)), (8, .int .i64 (((bytesI s).length : Nat) : Int)), (9, .int .i64 v9), (10, .bad), (33, .bad)], [], [], 0⟩ (blockQ 1 (seqQ Pg 43 0 (.reg none i45_R7) (loopQ Pg 43 0 i45_L0 (blockQ 0 (seqQ Pg 43 0 (.seq (.reg none i45_R8) .ret) (qf_45 r)))))) := by
  unfold m_pack_Name_k1 at h
  refine Wp.seq ?_
  replace h := ifS h; rcases h with ⟨g4, h⟩ | ⟨g4, h⟩
  · refine regP (seqN ?_)
    exact jumpK [.kill [3, 4, 5]] (w_m_pack_Name_k2 (s := s) hrec_m_pack_Name_l1 h)
  · replace h := ifS h; rcases h with ⟨g5, h⟩ | ⟨g5, h⟩
    · refine regP (seqN ?_)
      exact jumpK [.kill [3, 4, 5]] (w_m_pack_Name_k2 (s := s) hrec_m_pack_Name_l1 h)
    · replace h := ifS h; rcases h with ⟨g6, h⟩ | ⟨g6, h⟩
      · refine regP (seqN ?_)
        exact jumpK [.kill [3, 4, 5]] (w_m_pack_Name_k2 (s := s) hrec_m_pack_Name_l1 h)
      · refine regP (seqN ?_)
        exact jumpK [.kill [3, 4, 5]] (w_m_pack_Name_k2 (s := s) hrec_m_pack_Name_l1 h)
theorem w_m_pack_Name_l1_B {s : ByteArray} {r : Bool}   {rec_m_pack_Name_l1 : Int → Option Bool} (hrec_m_pack_Name_l1 : ∀ {v9 : Int}, rec_m_pack_Name_l1 v9 = some r → LWp Pg 43 0 i45_L0 ⟨[(0, .str s), (2, .bad), (3, .bad), (4, .bad), (5, .bad), (7, sl (ci .u8) (bytesI s)), (8, .int .i64 (((bytesI s).length : Nat) : Int)), (9, .int .i64 v9), (10, .bad), (33, .bad)], [], [], 0⟩ (blockQ 0 (seqQ Pg 43 0 (.seq (.reg none i45_R8) .ret) (qf_45 r)))) {v9 : Int} (h : m_pack_Name_l1_B  s rec_m_pack_Name_l1 v9 = some r) : LWp Pg 43 0 i45_L0 ⟨[(0, .str s), (2, .bad), (3, .bad), (4, .bad), (5, .bad), (7, sl (ci .u8) (bytesI s)), (8, .int .i64 (((bytesI s).length : Nat) : Int)), (9, .int .i64 v9), (10, .bad), (33, .bad)], [], [], 0⟩ (blockQ 0 (seqQ Pg 43 0 (.seq (.reg none i45_R8) .ret) (qf_45 r))) := by
  unfold m_pack_Name_l1_B at h
  refine LWp.stepC i45_L0.eq_1 ?_
  refine Wp.seq (regP (seqN (Wp.seq ?_)))
  replace h := ifS h; rcases h with ⟨g1, h⟩ | ⟨g1, h⟩
  · refine condTP (Wp.skip (seqN (Wp.seq (Wp.block (Wp.seq ?_)))))
    replace h := bndS h; obtain ⟨e, g2, h⟩ := h
    refine regP (seqN (Wp.seq ?_))
    replace h := ifS h; rcases h with ⟨g3, h⟩ | ⟨g3, h⟩
    · refine regP (seqN ?_)
      exact jumpK [.kill [10]] (w_m_pack_Name_k1 (s := s) hrec_m_pack_Name_l1 h)
    · refine regP (seqN ?_)
      exact jumpK [.kill [10]] (w_m_pack_Name_k1 (s := s) hrec_m_pack_Name_l1 h)
  · refine condFP (Wp.out (seqO (loopO (blockO (seqN ?_)))))
    exact jumpK [.kill [7, 8, 9, 10]] (w_m_pack_Name_k3 h)
theorem w_m_pack_Name_l1 {s : ByteArray} {r : Bool}   : ∀ (n : Nat) {v9 : Int}, m_pack_Name_l1  s n v9 = some r → LWp Pg 43 0 i45_L0 ⟨[(0, .str s), (2, .bad), (3, .bad), (4, .bad), (5, .bad), (7, sl (ci .u8) (bytesI s)), (8, .int .i64 (((bytesI s).length : Nat) : Int)), (9, .int .i64 v9), (10, .bad), (33, .bad)], [], [], 0⟩ (blockQ 0 (seqQ Pg 43 0 (.seq (.reg none i45_R8) .ret) (qf_45 r))) := by
  intro n
  induction n with
  | zero => intro v9 h; unfold m_pack_Name_l1 at h; cases h
  | succ n ih => intro v9 h; unfold m_pack_Name_l1 at h; exact w_m_pack_Name_l1_B  ih h
theorem w_m_pack_Name {s : ByteArray} {r : Bool}   (h : m_pack_Name s = some r) : Spec Pg 45 [.str s] [] 0 (.bool r) [] 0 := by
  refine Spec.intro Go.Proofs.Try.func45 i45_ok (le_of_ble rfl) ?_
  show Wp Pg 43 0 i45_B ⟨argEnv [.str s] i45_V, [], [], 0⟩ (qf_45 r)
  unfold m_pack_Name at h
  unfold i45_B
  refine weakP [] ?_
  refine Wp.seq (regP (seqN (Wp.seq (Wp.seq ?_))))
  refine regP (seqN (Wp.block (Wp.loop ?_)))
  exact jumpL [.kill [2, 3, 4, 5, 10, 33], .at 7 .frz, .tidy] (w_m_pack_Name_l1 _ h)
end Go.Proofs.Ytcmejocmohohpaa.R
