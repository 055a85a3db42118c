/- The program's functions answer what the models answer: 3. -/
import Derived.Test.YtcmejocmohohpaaMW0
import Derived.Test.YtcmejocmohohpaaMW2
set_option maxRecDepth 100000
set_option linter.unusedVariables false
set_option linter.unusedSimpArgs false
noncomputable section
namespace Go.Proofs.Ytcmejocmohohpaa.R
open Go Nat
/-! funicular/expr.check -/
noncomputable abbrev qf_61 (r : Int) : Ex → St → Prop := FinQ 0 [.tmp 4] (.int .i64 r) [] 0
theorem w_m_expr_check_l1_B {x0 : TExpr} {deep : Int} {r : Int} {rec_m_expr_check : TExpr → Int → Option Int} (hrec_m_expr_check : ∀ {x0 : TExpr} {deep : Int} {r : Int}, rec_m_expr_check x0 deep = some r → Spec Pg 61 [.agg [.int .i64 x0.Kind, .int .i64 x0.N, .str x0.Name, sl TExpr.c x0.Kids], .int .i64 deep] [] 0 (.int .i64 r) [] 0) {rec_m_expr_check_l1 : Int → Option Int} (hrec_m_expr_check_l1 : ∀ {v84 : Int}, rec_m_expr_check_l1 v84 = some r → LWp Pg 96 0 i61_L0 ⟨[(0, .bad), (1, .int .i64 deep), (2, .bad), (4, .bad), (5, .bad), (7, .bad), (8, .bad), (10, .bad), (12, .bad), (13, .bad), (18, .bad), (21, .bad), (37, .bad), (51, .bad), (82, sl TExpr.c x0.Kids), (83, .int .i64 (x0.Kids.length : Int)), (84, .int .i64 v84), (85, .bad), (93, .bad)], [], [], 0⟩ (blockQ 2 (seqQ Pg 96 0 (.seq (.reg none i61_R26) .ret) (qf_61 r)))) {v84 : Int} (h : m_expr_check_l1_B rec_m_expr_check x0 deep rec_m_expr_check_l1 v84 = some r) : LWp Pg 96 0 i61_L0 ⟨[(0, .bad), (1, .int .i64 deep), (2, .bad), (4, .bad), (5, .bad), (7, .bad), (8, .bad), (10, .bad), (12, .bad), (13, .bad), (18, .bad), (21, .bad), (37, .bad), (51, .bad), (82, sl TExpr.c x0.Kids), (83, .int .i64 (x0.Kids.length : Int)), (84, .int .i64 v84), (85, .bad), (93, .bad)], [], [], 0⟩ (blockQ 2 (seqQ Pg 96 0 (.seq (.reg none i61_R26) .ret) (qf_61 r))) := by
  unfold m_expr_check_l1_B at h
  refine LWp.stepC i61_L0.eq_1 ?_
  refine Wp.seq (regP (seqN (Wp.seq ?_)))
  replace h := ifS h; rcases h with ⟨g25, h⟩ | ⟨g25, h⟩
  · refine condTP (Wp.skip (seqN (Wp.seq (Wp.block (Wp.seq ?_)))))
    replace h := bndS h; obtain ⟨e, g26, h⟩ := h
    refine regP (seqN (Wp.seq (Wp.reg ?_)))
    replace h := bndS h; obtain ⟨r0_2, g27, h⟩ := h
    refine chunkT 4 (tab_cons (hrec_m_expr_check g27) (tab_nil _)) ?_
    refine lastT (tab_nil _) (seqN (Wp.seq ?_))
    refine regP (seqN ?_)
    replace h := ifS h; rcases h with ⟨g28, h⟩ | ⟨g28, h⟩
    · replace h := retS h; subst h
      refine condTP (Wp.seq ?_)
      refine regP (seqN (Wp.ret (blockR (seqR (loopR (blockR (seqR ?_)))))))
      exact finP
    · refine condFP (Wp.skip (blockN (seqN ?_)))
      refine regP (loopN ?_)
      exact jumpL [.kill [7, 8, 85, 93], .tidy] (hrec_m_expr_check_l1 h)
  · replace h := retS h; subst h
    refine condFP (Wp.out (seqO (loopO (blockO (seqN (Wp.seq ?_))))))
    refine regP (seqN (Wp.ret ?_))
    exact finP
theorem w_m_expr_check_l1 {x0 : TExpr} {deep : Int} {r : Int} {rec_m_expr_check : TExpr → Int → Option Int} (hrec_m_expr_check : ∀ {x0 : TExpr} {deep : Int} {r : Int}, rec_m_expr_check x0 deep = some r → Spec Pg 61 [.agg [.int .i64 x0.Kind, .int .i64 x0.N, .str x0.Name, sl TExpr.c x0.Kids], .int .i64 deep] [] 0 (.int .i64 r) [] 0) : ∀ (n : Nat) {v84 : Int}, m_expr_check_l1 rec_m_expr_check x0 deep n v84 = some r → LWp Pg 96 0 i61_L0 ⟨[(0, .bad), (1, .int .i64 deep), (2, .bad), (4, .bad), (5, .bad), (7, .bad), (8, .bad), (10, .bad), (12, .bad), (13, .bad), (18, .bad), (21, .bad), (37, .bad), (51, .bad), (82, sl TExpr.c x0.Kids), (83, .int .i64 (x0.Kids.length : Int)), (84, .int .i64 v84), (85, .bad), (93, .bad)], [], [], 0⟩ (blockQ 2 (seqQ Pg 96 0 (.seq (.reg none i61_R26) .ret) (qf_61 r))) := by
  intro n
  induction n with
  | zero => intro v84 h; unfold m_expr_check_l1 at h; cases h
  | succ n ih => intro v84 h; unfold m_expr_check_l1 at h; exact w_m_expr_check_l1_B hrec_m_expr_check ih h
theorem w_m_expr_check_k6 {x0 : TExpr} {deep : Int} {v51 : Bool} {r : Int} {rec_m_expr_check : TExpr → Int → Option Int} (hrec_m_expr_check : ∀ {x0 : TExpr} {deep : Int} {r : Int}, rec_m_expr_check x0 deep = some r → Spec Pg 61 [.agg [.int .i64 x0.Kind, .int .i64 x0.N, .str x0.Name, sl TExpr.c x0.Kids], .int .i64 deep] [] 0 (.int .i64 r) [] 0) (h : m_expr_check_k6 rec_m_expr_check x0 deep v51 = some r) : Wp Pg 96 0 (.cond (.t 51) (.seq (.reg none i61_R18) .ret) .skip) ⟨[(0, .bad), (1, .int .i64 deep), (2, .ptr 0 0), (4, .bad), (5, .bad), (7, .bad), (8, .bad), (10, .bad), (12, .bad), (13, .bad), (18, .bad), (21, .bad), (37, .bad), (51, .bool v51), (82, .bad), (83, .bad), (84, .bad), (85, .bad), (93, .bad)], [], [(0, .box [.int .i64 x0.Kind, .int .i64 x0.N, .str x0.Name, sl TExpr.c x0.Kids])], 1⟩ (blockQ 1 (seqQ Pg 96 0 (.seq (.seq (.reg none i61_R19) (.block 2 (.loop i61_L0))) (.seq (.reg none i61_R26) .ret)) (qf_61 r))) := by
  unfold m_expr_check_k6 at h
  replace h := ifS h; rcases h with ⟨g24, h⟩ | ⟨g24, h⟩
  · replace h := retS h; subst h
    refine condTP (Wp.seq ?_)
    refine regP (seqN (Wp.ret (blockR (seqR ?_))))
    exact finP
  · refine condFP (Wp.skip (blockN (seqN (Wp.seq (Wp.seq ?_)))))
    refine regP (seqN (Wp.block (Wp.loop ?_)))
    exact jumpL [.kill [2, 51], .tidy] (w_m_expr_check_l1 hrec_m_expr_check _ h)
theorem w_m_expr_check_k5 {x0 : TExpr} {deep : Int} {v37 : Bool} {r : Int} {rec_m_expr_check : TExpr → Int → Option Int} (hrec_m_expr_check : ∀ {x0 : TExpr} {deep : Int} {r : Int}, rec_m_expr_check x0 deep = some r → Spec Pg 61 [.agg [.int .i64 x0.Kind, .int .i64 x0.N, .str x0.Name, sl TExpr.c x0.Kids], .int .i64 deep] [] 0 (.int .i64 r) [] 0) (h : m_expr_check_k5 rec_m_expr_check x0 deep v37 = some r) : Wp Pg 96 0 (.cond (.t 37) (.seq (.reg none i61_R16) .ret) (.seq (.reg none i61_R17) (.cond (.t 51) (.seq (.reg none i61_R18) .ret) .skip))) ⟨[(0, .bad), (1, .int .i64 deep), (2, .ptr 0 0), (4, .bad), (5, .bad), (7, .bad), (8, .bad), (10, .bad), (12, .bad), (13, .bad), (18, .bad), (21, .bad), (37, .bool v37), (51, .bad), (82, .bad), (83, .bad), (84, .bad), (85, .bad), (93, .bad)], [], [(0, .box [.int .i64 x0.Kind, .int .i64 x0.N, .str x0.Name, sl TExpr.c x0.Kids])], 1⟩ (blockQ 1 (seqQ Pg 96 0 (.seq (.seq (.reg none i61_R19) (.block 2 (.loop i61_L0))) (.seq (.reg none i61_R26) .ret)) (qf_61 r))) := by
  unfold m_expr_check_k5 at h
  replace h := ifS h; rcases h with ⟨g13, h⟩ | ⟨g13, h⟩
  · replace h := retS h; subst h
    refine condTP (Wp.seq ?_)
    refine regP (seqN (Wp.ret (blockR (seqR ?_))))
    exact finP
  · refine condFP (Wp.seq (Wp.reg ?_))
    replace h := ifS h; rcases h with ⟨g14, h⟩ | ⟨g14, h⟩
    · replace h := ifS h; rcases h with ⟨g15, h⟩ | ⟨g15, h⟩
      · replace h := ifS h; rcases h with ⟨g16, h⟩ | ⟨g16, h⟩
        · replace h := bndS h; obtain ⟨r0, g17, h⟩ := h
          refine chunkT 16 (tab_cons (w_m_pack_Name g17) (tab_nil _)) ?_
          replace h := ifS h; rcases h with ⟨g18, h⟩ | ⟨g18, h⟩
          · replace h := ifS h; rcases h with ⟨g19, h⟩ | ⟨g19, h⟩
            · refine lastT (tab_nil _) (seqN ?_)
              exact jumpK [.kill [37]] (w_m_expr_check_k6 hrec_m_expr_check h)
            · refine lastT (tab_nil _) (seqN ?_)
              exact jumpK [.kill [37]] (w_m_expr_check_k6 hrec_m_expr_check h)
          · refine lastT (tab_nil _) (seqN ?_)
            exact jumpK [.kill [37]] (w_m_expr_check_k6 hrec_m_expr_check h)
        · refine lastT (tab_nil _) (seqN ?_)
          exact jumpK [.kill [37]] (w_m_expr_check_k6 hrec_m_expr_check h)
      · refine lastT (tab_nil _) (seqN ?_)
        exact jumpK [.kill [37]] (w_m_expr_check_k6 hrec_m_expr_check h)
    · replace h := ifS h; rcases h with ⟨g20, h⟩ | ⟨g20, h⟩
      · replace h := bndS h; obtain ⟨r0_1, g21, h⟩ := h
        refine chunkT 16 (tab_cons (w_m_pack_Name g21) (tab_nil _)) ?_
        replace h := ifS h; rcases h with ⟨g22, h⟩ | ⟨g22, h⟩
        · replace h := ifS h; rcases h with ⟨g23, h⟩ | ⟨g23, h⟩
          · refine lastT (tab_nil _) (seqN ?_)
            exact jumpK [.kill [37]] (w_m_expr_check_k6 hrec_m_expr_check h)
          · refine lastT (tab_nil _) (seqN ?_)
            exact jumpK [.kill [37]] (w_m_expr_check_k6 hrec_m_expr_check h)
        · refine lastT (tab_nil _) (seqN ?_)
          exact jumpK [.kill [37]] (w_m_expr_check_k6 hrec_m_expr_check h)
      · refine lastT (tab_nil _) (seqN ?_)
        exact jumpK [.kill [37]] (w_m_expr_check_k6 hrec_m_expr_check h)
theorem w_m_expr_check_k4 {x0 : TExpr} {deep : Int} {v21 : Bool} {r : Int} {rec_m_expr_check : TExpr → Int → Option Int} (hrec_m_expr_check : ∀ {x0 : TExpr} {deep : Int} {r : Int}, rec_m_expr_check x0 deep = some r → Spec Pg 61 [.agg [.int .i64 x0.Kind, .int .i64 x0.N, .str x0.Name, sl TExpr.c x0.Kids], .int .i64 deep] [] 0 (.int .i64 r) [] 0) (h : m_expr_check_k4 rec_m_expr_check x0 deep v21 = some r) : Wp Pg 96 0 (.cond (.t 21) (.seq (.reg none i61_R14) .ret) (.seq (.reg none i61_R15) (.cond (.t 37) (.seq (.reg none i61_R16) .ret) (.seq (.reg none i61_R17) (.cond (.t 51) (.seq (.reg none i61_R18) .ret) .skip))))) ⟨[(0, .bad), (1, .int .i64 deep), (2, .ptr 0 0), (4, .bad), (5, .bad), (7, .bad), (8, .bad), (10, .bad), (12, .bad), (13, .bad), (18, .bad), (21, .bool v21), (37, .bad), (51, .bad), (82, .bad), (83, .bad), (84, .bad), (85, .bad), (93, .bad)], [], [(0, .box [.int .i64 x0.Kind, .int .i64 x0.N, .str x0.Name, sl TExpr.c x0.Kids])], 1⟩ (blockQ 1 (seqQ Pg 96 0 (.seq (.seq (.reg none i61_R19) (.block 2 (.loop i61_L0))) (.seq (.reg none i61_R26) .ret)) (qf_61 r))) := by
  unfold m_expr_check_k4 at h
  replace h := ifS h; rcases h with ⟨g10, h⟩ | ⟨g10, h⟩
  · replace h := retS h; subst h
    refine condTP (Wp.seq ?_)
    refine regP (seqN (Wp.ret (blockR (seqR ?_))))
    exact finP
  · refine condFP (Wp.seq ?_)
    replace h := ifS h; rcases h with ⟨g11, h⟩ | ⟨g11, h⟩
    · refine regP (seqN ?_)
      exact jumpK [.kill [21]] (w_m_expr_check_k5 hrec_m_expr_check h)
    · replace h := ifS h; rcases h with ⟨g12, h⟩ | ⟨g12, h⟩
      · refine regP (seqN ?_)
        exact jumpK [.kill [21]] (w_m_expr_check_k5 hrec_m_expr_check h)
      · refine regP (seqN ?_)
        exact jumpK [.kill [21]] (w_m_expr_check_k5 hrec_m_expr_check h)
theorem w_m_expr_check_k3 {x0 : TExpr} {deep : Int} {kids : Int} {r : Int} {rec_m_expr_check : TExpr → Int → Option Int} (hrec_m_expr_check : ∀ {x0 : TExpr} {deep : Int} {r : Int}, rec_m_expr_check x0 deep = some r → Spec Pg 61 [.agg [.int .i64 x0.Kind, .int .i64 x0.N, .str x0.Name, sl TExpr.c x0.Kids], .int .i64 deep] [] 0 (.int .i64 r) [] 0) (h : m_expr_check_k3 rec_m_expr_check x0 deep kids = some r) : Wp Pg 96 0 (.seq (.block 1 (.seq (.reg none i61_R13) (.cond (.t 21) (.seq (.reg none i61_R14) .ret) (.seq (.reg none i61_R15) (.cond (.t 37) (.seq (.reg none i61_R16) .ret) (.seq (.reg none i61_R17) (.cond (.t 51) (.seq (.reg none i61_R18) .ret) .skip))))))) (.seq (.seq (.reg none i61_R19) (.block 2 (.loop i61_L0))) (.seq (.reg none i61_R26) .ret))) ⟨[(0, .bad), (1, .int .i64 deep), (2, .ptr 0 0), (4, .bad), (5, .int .i64 kids), (7, .bad), (8, .bad), (10, .bad), (12, .bad), (13, .bad), (18, .bad), (21, .bad), (37, .bad), (51, .bad), (82, .bad), (83, .bad), (84, .bad), (85, .bad), (93, .bad)], [], [(0, .box [.int .i64 x0.Kind, .int .i64 x0.N, .str x0.Name, sl TExpr.c x0.Kids])], 1⟩ (qf_61 r) := by
  unfold m_expr_check_k3 at h
  refine Wp.seq (Wp.block (Wp.seq ?_))
  replace h := ifS h; rcases h with ⟨g8, h⟩ | ⟨g8, h⟩
  · refine regP (seqN ?_)
    exact jumpK [.kill [5]] (w_m_expr_check_k4 hrec_m_expr_check h)
  · replace h := ifS h; rcases h with ⟨g9, h⟩ | ⟨g9, h⟩
    · refine regP (seqN ?_)
      exact jumpK [.kill [5]] (w_m_expr_check_k4 hrec_m_expr_check h)
    · refine regP (seqN ?_)
      exact jumpK [.kill [5]] (w_m_expr_check_k4 hrec_m_expr_check h)
theorem w_m_expr_check_k2 {x0 : TExpr} {deep : Int} {v18 : Bool} {r : Int} {rec_m_expr_check : TExpr → Int → Option Int} (hrec_m_expr_check : ∀ {x0 : TExpr} {deep : Int} {r : Int}, rec_m_expr_check x0 deep = some r → Spec Pg 61 [.agg [.int .i64 x0.Kind, .int .i64 x0.N, .str x0.Name, sl TExpr.c x0.Kids], .int .i64 deep] [] 0 (.int .i64 r) [] 0) (h : m_expr_check_k2 rec_m_expr_check x0 deep v18 = some r) : Wp Pg 96 0 (.cond (.t 18) (.reg none i61_R12) .skip) ⟨[(0, .bad), (1, .int .i64 deep), (2, .ptr 0 0), (4, .bad), (5, .int .i64 (2 : Int)), (7, .bad), (8, .bad), (10, .bad), (12, .bad), (13, .bad), (18, .bool v18), (21, .bad), (37, .bad), (51, .bad), (82, .bad), (83, .bad), (84, .bad), (85, .bad), (93, .bad)], [], [(0, .box [.int .i64 x0.Kind, .int .i64 x0.N, .str x0.Name, sl TExpr.c x0.Kids])], 1⟩ (blockQ 0 (seqQ Pg 96 0 (.seq (.block 1 (.seq (.reg none i61_R13) (.cond (.t 21) (.seq (.reg none i61_R14) .ret) (.seq (.reg none i61_R15) (.cond (.t 37) (.seq (.reg none i61_R16) .ret) (.seq (.reg none i61_R17) (.cond (.t 51) (.seq (.reg none i61_R18) .ret) .skip))))))) (.seq (.seq (.reg none i61_R19) (.block 2 (.loop i61_L0))) (.seq (.reg none i61_R26) .ret))) (qf_61 r))) := by
  unfold m_expr_check_k2 at h
  replace h := ifS h; rcases h with ⟨g7, h⟩ | ⟨g7, h⟩
  · refine condTP ?_
    refine regP (blockN (seqN ?_))
    exact jumpK [.kill [18]] (w_m_expr_check_k3 hrec_m_expr_check h)
  · refine condFP (Wp.skip (blockN (seqN ?_)))
    exact jumpK [.kill [18]] (w_m_expr_check_k3 hrec_m_expr_check h)
theorem w_m_expr_check_k1 {x0 : TExpr} {deep : Int} {v13 : Bool} {r : Int} {rec_m_expr_check : TExpr → Int → Option Int} (hrec_m_expr_check : ∀ {x0 : TExpr} {deep : Int} {r : Int}, rec_m_expr_check x0 deep = some r → Spec Pg 61 [.agg [.int .i64 x0.Kind, .int .i64 x0.N, .str x0.Name, sl TExpr.c x0.Kids], .int .i64 deep] [] 0 (.int .i64 r) [] 0) (h : m_expr_check_k1 rec_m_expr_check x0 deep v13 = some r) : Wp Pg 96 0 (.cond (.t 13) (.reg none i61_R9) (.seq (.seq (.reg none i61_R10) (.cond (.t 18) .skip (.reg none i61_R11))) (.cond (.t 18) (.reg none i61_R12) .skip))) ⟨[(0, .bad), (1, .int .i64 deep), (2, .ptr 0 0), (4, .bad), (5, .int .i64 (2 : Int)), (7, .bad), (8, .bad), (10, .bad), (12, .int .i64 x0.Kind), (13, .bool v13), (18, .bad), (21, .bad), (37, .bad), (51, .bad), (82, .bad), (83, .bad), (84, .bad), (85, .bad), (93, .bad)], [], [(0, .box [.int .i64 x0.Kind, .int .i64 x0.N, .str x0.Name, sl TExpr.c x0.Kids])], 1⟩ (blockQ 0 (seqQ Pg 96 0 (.seq (.block 1 (.seq (.reg none i61_R13) (.cond (.t 21) (.seq (.reg none i61_R14) .ret) (.seq (.reg none i61_R15) (.cond (.t 37) (.seq (.reg none i61_R16) .ret) (.seq (.reg none i61_R17) (.cond (.t 51) (.seq (.reg none i61_R18) .ret) .skip))))))) (.seq (.seq (.reg none i61_R19) (.block 2 (.loop i61_L0))) (.seq (.reg none i61_R26) .ret))) (qf_61 r))) := by
  unfold m_expr_check_k1 at h
  replace h := ifS h; rcases h with ⟨g5, h⟩ | ⟨g5, h⟩
  · refine condTP ?_
    refine regP (blockN (seqN ?_))
    exact jumpK [.kill [12, 13]] (w_m_expr_check_k3 hrec_m_expr_check h)
  · refine condFP (Wp.seq (Wp.seq ?_))
    refine regP (seqN ?_)
    replace h := ifS h; rcases h with ⟨g6, h⟩ | ⟨g6, h⟩
    · refine condTP (Wp.skip (seqN ?_))
      exact jumpK [.kill [12, 13]] (w_m_expr_check_k2 hrec_m_expr_check h)
    · refine condFP ?_
      refine regP (seqN ?_)
      exact jumpK [.kill [12, 13]] (w_m_expr_check_k2 hrec_m_expr_check h)
theorem w_m_expr_check_B {x0 : TExpr} {deep : Int} {r : Int} {rec_m_expr_check : TExpr → Int → Option Int} (hrec_m_expr_check : ∀ {x0 : TExpr} {deep : Int} {r : Int}, rec_m_expr_check x0 deep = some r → Spec Pg 61 [.agg [.int .i64 x0.Kind, .int .i64 x0.N, .str x0.Name, sl TExpr.c x0.Kids], .int .i64 deep] [] 0 (.int .i64 r) [] 0) (h : m_expr_check_B rec_m_expr_check x0 deep = some r) : Spec Pg 61 [.agg [.int .i64 x0.Kind, .int .i64 x0.N, .str x0.Name, sl TExpr.c x0.Kids], .int .i64 deep] [] 0 (.int .i64 r) [] 0 := by
  refine Spec.intro Go.Proofs.Try.func61 i61_ok (le_of_ble rfl) ?_
  show Wp Pg 96 0 i61_B ⟨argEnv [.agg [.int .i64 x0.Kind, .int .i64 x0.N, .str x0.Name, sl TExpr.c x0.Kids], .int .i64 deep] i61_V, [], [], 0⟩ (qf_61 r)
  unfold m_expr_check_B at h
  unfold i61_B
  refine weakP [] ?_
  refine Wp.seq (regP (seqN (Wp.seq (Wp.seq ?_))))
  refine regP (seqN ?_)
  replace h := ifS h; rcases h with ⟨g1, h⟩ | ⟨g1, h⟩
  · replace h := retS h; subst h
    refine condTP (Wp.seq ?_)
    refine regP (seqN (Wp.ret (seqR ?_)))
    exact finP
  · refine condFP (Wp.skip (seqN (Wp.seq ?_)))
    refine regP (seqN (Wp.seq (Wp.seq ?_)))
    refine regP (seqN (Wp.block (Wp.seq (Wp.seq ?_))))
    refine regP (seqN ?_)
    replace h := ifS h; rcases h with ⟨g2, h⟩ | ⟨g2, h⟩
    · refine condTP (Wp.skip (seqN ?_))
      exact jumpK [.kill [0, 4, 7, 8, 10, 18, 21, 37, 51, 82, 83, 84, 85, 93]] (w_m_expr_check_k1 hrec_m_expr_check h)
    · refine condFP (Wp.seq ?_)
      refine regP (seqN ?_)
      replace h := ifS h; rcases h with ⟨g3, h⟩ | ⟨g3, h⟩
      · refine condTP (Wp.skip (seqN ?_))
        exact jumpK [.kill [0, 4, 7, 8, 10, 18, 21, 37, 51, 82, 83, 84, 85, 93]] (w_m_expr_check_k1 hrec_m_expr_check h)
      · refine condFP (Wp.seq ?_)
        refine regP (seqN ?_)
        replace h := ifS h; rcases h with ⟨g4, h⟩ | ⟨g4, h⟩
        · refine condTP (Wp.skip (seqN ?_))
          exact jumpK [.kill [0, 4, 7, 8, 10, 18, 21, 37, 51, 82, 83, 84, 85, 93]] (w_m_expr_check_k1 hrec_m_expr_check h)
        · refine condFP ?_
          refine regP (seqN ?_)
          exact jumpK [.kill [0, 4, 7, 8, 10, 18, 21, 37, 51, 82, 83, 84, 85, 93]] (w_m_expr_check_k1 hrec_m_expr_check h)
theorem w_m_expr_check : ∀ (n : Nat) {x0 : TExpr} {deep : Int} {r : Int}, m_expr_check n x0 deep = some r → Spec Pg 61 [.agg [.int .i64 x0.Kind, .int .i64 x0.N, .str x0.Name, sl TExpr.c x0.Kids], .int .i64 deep] [] 0 (.int .i64 r) [] 0 := by
  intro n
  induction n with
  | zero => intro x0 deep r h; unfold m_expr_check at h; cases h
  | succ n ih => intro x0 deep r h; unfold m_expr_check at h; exact w_m_expr_check_B ih h
/-! funicular/expr.Check -/
noncomputable abbrev qf_43 (r : Int) : Ex → St → Prop := FinQ 0 [.tmp 2] (.int .i64 r) [] 0
theorem w_m_expr_Check {x0 : TExpr} {r : Int}   (h : m_expr_Check x0 = some r) : Spec Pg 43 [.agg [.int .i64 x0.Kind, .int .i64 x0.N, .str x0.Name, sl TExpr.c x0.Kids]] [] 0 (.int .i64 r) [] 0 := by
  refine Spec.intro Go.Proofs.Try.func43 i43_ok (le_of_ble rfl) ?_
  show Wp Pg 5 0 i43_B ⟨argEnv [.agg [.int .i64 x0.Kind, .int .i64 x0.N, .str x0.Name, sl TExpr.c x0.Kids]] i43_V, [], [], 0⟩ (qf_43 r)
  unfold m_expr_Check at h
  unfold i43_B
  refine weakP [] ?_
  refine Wp.seq (regP (seqN (Wp.seq (Wp.reg ?_))))
  replace h := bndS h; obtain ⟨r0, g1, h⟩ := h
  replace h := retS h; subst h
  refine chunkT 2 (tab_cons (w_m_expr_check _ g1) (tab_nil _)) ?_
  refine lastT (tab_nil _) (seqN (Wp.ret ?_))
  exact finP
/-! funicular/types.shape -/
noncomputable abbrev qf_62 (r : (Int × Int)) : Ex → St → Prop := FinQ 0 [.tmp 2, .tmp 3] (.tup [.int .i64 r.1, .int .i64 r.2]) [] 0
theorem w_m_types_shape_k1 {kind : Int} {v5 : Bool} {r : (Int × Int)}   (h : m_types_shape_k1 kind v5 = some r) : Wp Pg 17 0 (.cond (.t 5) (.seq (.reg none i62_R9) .ret) (.seq (.reg none i62_R10) (.cond (.t 13) (.seq (.reg none i62_R11) .ret) (.seq (.reg none i62_R12) (.cond (.t 15) (.seq (.reg none i62_R13) .ret) .skip))))) ⟨[(0, .bad), (2, .bad), (3, .bad), (4, .int .i64 kind), (5, .bool v5), (13, .bad), (15, .bad)], [], [], 0⟩ (blockQ 0 (seqQ Pg 17 0 (.seq (.reg none i62_R14) .ret) (qf_62 r))) := by
  unfold m_types_shape_k1 at h
  replace h := ifS h; rcases h with ⟨g7, h⟩ | ⟨g7, h⟩
  · replace h := retS h; subst h
    refine condTP (Wp.seq ?_)
    refine regP (seqN (Wp.ret (blockR (seqR ?_))))
    exact finP
  · refine condFP (Wp.seq ?_)
    refine regP (seqN ?_)
    replace h := ifS h; rcases h with ⟨g8, h⟩ | ⟨g8, h⟩
    · replace h := retS h; subst h
      refine condTP (Wp.seq ?_)
      refine regP (seqN (Wp.ret (blockR (seqR ?_))))
      exact finP
    · refine condFP (Wp.seq ?_)
      refine regP (seqN ?_)
      replace h := ifS h; rcases h with ⟨g9, h⟩ | ⟨g9, h⟩
      · replace h := retS h; subst h
        refine condTP (Wp.seq ?_)
        refine regP (seqN (Wp.ret (blockR (seqR ?_))))
        exact finP
      · replace h := retS h; subst h
        refine condFP (Wp.skip (blockN (seqN (Wp.seq ?_))))
        refine regP (seqN (Wp.ret ?_))
        exact finP
theorem w_m_types_shape {kind : Int} {r : (Int × Int)}   (h : m_types_shape kind = some r) : Spec Pg 62 [.int .i64 kind] [] 0 (.tup [.int .i64 r.1, .int .i64 r.2]) [] 0 := by
  refine Spec.intro Go.Proofs.Try.func62 i62_ok (le_of_ble rfl) ?_
  show Wp Pg 17 0 i62_B ⟨argEnv [.int .i64 kind] i62_V, [], [], 0⟩ (qf_62 r)
  unfold m_types_shape at h
  unfold i62_B
  refine weakP [] ?_
  refine Wp.seq (regP (seqN (Wp.seq (Wp.seq ?_))))
  refine regP (seqN (Wp.block (Wp.seq (Wp.seq ?_))))
  refine regP (seqN ?_)
  replace h := ifS h; rcases h with ⟨g1, h⟩ | ⟨g1, h⟩
  · refine condTP (Wp.skip (seqN ?_))
    exact jumpK [.kill [0, 2, 3, 13, 15]] (w_m_types_shape_k1 h)
  · refine condFP (Wp.seq ?_)
    refine regP (seqN ?_)
    replace h := ifS h; rcases h with ⟨g2, h⟩ | ⟨g2, h⟩
    · refine condTP (Wp.skip (seqN ?_))
      exact jumpK [.kill [0, 2, 3, 13, 15]] (w_m_types_shape_k1 h)
    · refine condFP (Wp.seq ?_)
      refine regP (seqN ?_)
      replace h := ifS h; rcases h with ⟨g3, h⟩ | ⟨g3, h⟩
      · refine condTP (Wp.skip (seqN ?_))
        exact jumpK [.kill [0, 2, 3, 13, 15]] (w_m_types_shape_k1 h)
      · refine condFP (Wp.seq ?_)
        refine regP (seqN ?_)
        replace h := ifS h; rcases h with ⟨g4, h⟩ | ⟨g4, h⟩
        · refine condTP (Wp.skip (seqN ?_))
          exact jumpK [.kill [0, 2, 3, 13, 15]] (w_m_types_shape_k1 h)
        · refine condFP (Wp.seq ?_)
          refine regP (seqN ?_)
          replace h := ifS h; rcases h with ⟨g5, h⟩ | ⟨g5, h⟩
          · refine condTP (Wp.skip (seqN ?_))
            exact jumpK [.kill [0, 2, 3, 13, 15]] (w_m_types_shape_k1 h)
          · refine condFP (Wp.seq ?_)
            refine regP (seqN ?_)
            replace h := ifS h; rcases h with ⟨g6, h⟩ | ⟨g6, h⟩
            · refine condTP (Wp.skip (seqN ?_))
              exact jumpK [.kill [0, 2, 3, 13, 15]] (w_m_types_shape_k1 h)
            · refine condFP ?_
              refine regP (seqN ?_)
              exact jumpK [.kill [0, 2, 3, 13, 15]] (w_m_types_shape_k1 h)
/-! funicular/types.of -/
noncomputable abbrev qf_44 (r : (Int × Int)) : Ex → St → Prop := FinQ 0 [.tmp 2, .tmp 3] (.tup [.int .i64 r.1, .int .i64 r.2]) [] 0
theorem w_m_types_of_k3 {r0 : (Int × Int)} {r : (Int × Int)}   (h : m_types_of_k3 r0 = some r) : Wp Pg 44 0 (.seq (.reg none i44_R13) .ret) ⟨[(0, .bad), (1, .bad), (2, .bad), (3, .bad), (4, .bad), (5, .int .i64 r0.2), (6, .bad), (7, .bad), (8, .bad), (9, .bad), (17, .bad), (18, .bad), (19, .bad), (20, .bad), (30, .bad), (37, .bad), (41, .bad)], [], [], 0⟩ (qf_44 r) := by
  unfold m_types_of_k3 at h
  replace h := retS h; subst h
  refine Wp.seq (regP (seqN (Wp.ret ?_)))
  exact finP
theorem w_m_types_of_k2 {x0 : TExpr} {r0 : (Int × Int)} {v19 : Int} {r0_1 : (Int × Int)} {want_1 : Int} {r : (Int × Int)} {rec_m_types_of_l1 : Int → Int → Option (Int × Int)} (hrec_m_types_of_l1 : ∀ {want : Int} {v19 : Int}, rec_m_types_of_l1 want v19 = some r → LWp Pg 44 0 i44_L0 ⟨[(0, .bad), (1, .bad), (2, .bad), (3, .bad), (4, .int .i64 want), (5, .int .i64 r0.2), (6, .bad), (7, .bad), (8, .bad), (9, .bad), (17, sl TExpr.c x0.Kids), (18, .int .i64 (x0.Kids.length : Int)), (19, .int .i64 v19), (20, .bad), (30, .bad), (37, .bad), (41, .bad)], [], [], 0⟩ (blockQ 0 (seqQ Pg 44 0 (.seq (.reg none i44_R13) .ret) (qf_44 r)))) (h : m_types_of_k2 rec_m_types_of_l1 v19 r0_1 want_1 = some r) : Wp Pg 44 0 (.seq (.reg none i44_R10) (.cond (.t 41) (.seq (.reg none i44_R11) .ret) .skip)) ⟨[(0, .bad), (1, .bad), (2, .bad), (3, .bad), (4, .int .i64 want_1), (5, .int .i64 r0.2), (6, .bad), (7, .bad), (8, .int .i64 r0_1.1), (9, .bad), (17, sl TExpr.c x0.Kids), (18, .int .i64 (x0.Kids.length : Int)), (19, .int .i64 v19), (20, .bad), (30, .bad), (37, .bad), (41, .bad)], [], [], 0⟩ (blockQ 1 (seqQ Pg 44 0 (.reg none i44_R12) (loopQ Pg 44 0 i44_L0 (blockQ 0 (seqQ Pg 44 0 (.seq (.reg none i44_R13) .ret) (qf_44 r)))))) := by
  unfold m_types_of_k2 at h
  refine Wp.seq (regP (seqN ?_))
  replace h := ifS h; rcases h with ⟨g8, h⟩ | ⟨g8, h⟩
  · replace h := retS h; subst h
    refine condTP (Wp.seq ?_)
    refine regP (seqN (Wp.ret (blockR (seqR (loopR (blockR (seqR ?_)))))))
    exact finP
  · refine condFP (Wp.skip (blockN (seqN ?_)))
    refine regP (loopN ?_)
    exact jumpL [.kill [8, 41]] (hrec_m_types_of_l1 h)
theorem w_m_types_of_k1 {x0 : TExpr} {r0 : (Int × Int)} {want : Int} {v19 : Int} {r0_1 : (Int × Int)} {v37 : Bool} {r : (Int × Int)} {rec_m_types_of_l1 : Int → Int → Option (Int × Int)} (hrec_m_types_of_l1 : ∀ {want : Int} {v19 : Int}, rec_m_types_of_l1 want v19 = some r → LWp Pg 44 0 i44_L0 ⟨[(0, .bad), (1, .bad), (2, .bad), (3, .bad), (4, .int .i64 want), (5, .int .i64 r0.2), (6, .bad), (7, .bad), (8, .bad), (9, .bad), (17, sl TExpr.c x0.Kids), (18, .int .i64 (x0.Kids.length : Int)), (19, .int .i64 v19), (20, .bad), (30, .bad), (37, .bad), (41, .bad)], [], [], 0⟩ (blockQ 0 (seqQ Pg 44 0 (.seq (.reg none i44_R13) .ret) (qf_44 r)))) (h : m_types_of_k1 rec_m_types_of_l1 want v19 r0_1 v37 = some r) : Wp Pg 44 0 (.cond (.t 37) (.reg none i44_R9) .skip) ⟨[(0, .bad), (1, .bad), (2, .bad), (3, .bad), (4, .int .i64 want), (5, .int .i64 r0.2), (6, .bad), (7, .bad), (8, .int .i64 r0_1.1), (9, .bad), (17, sl TExpr.c x0.Kids), (18, .int .i64 (x0.Kids.length : Int)), (19, .int .i64 v19), (20, .bad), (30, .bad), (37, .bool v37), (41, .bad)], [], [], 0⟩ (seqQ Pg 44 0 (.seq (.reg none i44_R10) (.cond (.t 41) (.seq (.reg none i44_R11) .ret) .skip)) (blockQ 1 (seqQ Pg 44 0 (.reg none i44_R12) (loopQ Pg 44 0 i44_L0 (blockQ 0 (seqQ Pg 44 0 (.seq (.reg none i44_R13) .ret) (qf_44 r))))))) := by
  unfold m_types_of_k1 at h
  replace h := ifS h; rcases h with ⟨g7, h⟩ | ⟨g7, h⟩
  · refine condTP ?_
    refine regP (seqN ?_)
    exact jumpK [.kill [37]] (w_m_types_of_k2 (x0 := x0) (r0 := r0) hrec_m_types_of_l1 h)
  · refine condFP (Wp.skip (seqN ?_))
    exact jumpK [.kill [37]] (w_m_types_of_k2 (x0 := x0) (r0 := r0) hrec_m_types_of_l1 h)
theorem w_m_types_of_l1_B {x0 : TExpr} {r0 : (Int × Int)} {r : (Int × Int)} {rec_m_types_of : TExpr → Option (Int × Int)} (hrec_m_types_of : ∀ {x0 : TExpr} {r : (Int × Int)}, rec_m_types_of x0 = some r → Spec Pg 44 [.agg [.int .i64 x0.Kind, .int .i64 x0.N, .str x0.Name, sl TExpr.c x0.Kids]] [] 0 (.tup [.int .i64 r.1, .int .i64 r.2]) [] 0) {rec_m_types_of_l1 : Int → Int → Option (Int × Int)} (hrec_m_types_of_l1 : ∀ {want : Int} {v19 : Int}, rec_m_types_of_l1 want v19 = some r → LWp Pg 44 0 i44_L0 ⟨[(0, .bad), (1, .bad), (2, .bad), (3, .bad), (4, .int .i64 want), (5, .int .i64 r0.2), (6, .bad), (7, .bad), (8, .bad), (9, .bad), (17, sl TExpr.c x0.Kids), (18, .int .i64 (x0.Kids.length : Int)), (19, .int .i64 v19), (20, .bad), (30, .bad), (37, .bad), (41, .bad)], [], [], 0⟩ (blockQ 0 (seqQ Pg 44 0 (.seq (.reg none i44_R13) .ret) (qf_44 r)))) {want : Int} {v19 : Int} (h : m_types_of_l1_B rec_m_types_of x0 r0 rec_m_types_of_l1 want v19 = some r) : LWp Pg 44 0 i44_L0 ⟨[(0, .bad), (1, .bad), (2, .bad), (3, .bad), (4, .int .i64 want), (5, .int .i64 r0.2), (6, .bad), (7, .bad), (8, .bad), (9, .bad), (17, sl TExpr.c x0.Kids), (18, .int .i64 (x0.Kids.length : Int)), (19, .int .i64 v19), (20, .bad), (30, .bad), (37, .bad), (41, .bad)], [], [], 0⟩ (blockQ 0 (seqQ Pg 44 0 (.seq (.reg none i44_R13) .ret) (qf_44 r))) := by
  unfold m_types_of_l1_B at h
  refine LWp.stepC i44_L0.eq_1 ?_
  refine Wp.seq (regP (seqN (Wp.seq ?_)))
  replace h := ifS h; rcases h with ⟨g2, h⟩ | ⟨g2, h⟩
  · refine condTP (Wp.skip (seqN (Wp.seq (Wp.block (Wp.seq ?_)))))
    replace h := bndS h; obtain ⟨e, g3, h⟩ := h
    refine regP (seqN (Wp.seq (Wp.reg ?_)))
    replace h := bndS h; obtain ⟨r0_1, g4, h⟩ := h
    refine chunkT 2 (tab_cons (hrec_m_types_of g4) (tab_nil _)) ?_
    refine lastT (tab_nil _) (seqN (Wp.seq (Wp.seq ?_)))
    refine regP (seqN ?_)
    replace h := ifS h; rcases h with ⟨g5, h⟩ | ⟨g5, h⟩
    · replace h := retS h; subst h
      refine condTP (Wp.seq ?_)
      refine regP (seqN (Wp.ret (seqR (blockR (seqR (loopR (blockR (seqR ?_))))))))
      exact finP
    · refine condFP (Wp.skip (seqN (Wp.seq (Wp.seq ?_))))
      replace h := ifS h; rcases h with ⟨g6, h⟩ | ⟨g6, h⟩
      · refine regP (seqN ?_)
        exact jumpK [.kill [6, 7, 9, 20, 30], .tidy] (w_m_types_of_k1 (x0 := x0) (r0 := r0) hrec_m_types_of_l1 h)
      · refine regP (seqN ?_)
        exact jumpK [.kill [6, 7, 9, 20, 30], .tidy] (w_m_types_of_k1 (x0 := x0) (r0 := r0) hrec_m_types_of_l1 h)
  · refine condFP (Wp.out (seqO (loopO (blockO (seqN ?_)))))
    exact jumpK [.kill [4, 17, 18, 19, 20]] (w_m_types_of_k3 h)
theorem w_m_types_of_l1 {x0 : TExpr} {r0 : (Int × Int)} {r : (Int × Int)} {rec_m_types_of : TExpr → Option (Int × Int)} (hrec_m_types_of : ∀ {x0 : TExpr} {r : (Int × Int)}, rec_m_types_of x0 = some r → Spec Pg 44 [.agg [.int .i64 x0.Kind, .int .i64 x0.N, .str x0.Name, sl TExpr.c x0.Kids]] [] 0 (.tup [.int .i64 r.1, .int .i64 r.2]) [] 0) : ∀ (n : Nat) {want : Int} {v19 : Int}, m_types_of_l1 rec_m_types_of x0 r0 n want v19 = some r → LWp Pg 44 0 i44_L0 ⟨[(0, .bad), (1, .bad), (2, .bad), (3, .bad), (4, .int .i64 want), (5, .int .i64 r0.2), (6, .bad), (7, .bad), (8, .bad), (9, .bad), (17, sl TExpr.c x0.Kids), (18, .int .i64 (x0.Kids.length : Int)), (19, .int .i64 v19), (20, .bad), (30, .bad), (37, .bad), (41, .bad)], [], [], 0⟩ (blockQ 0 (seqQ Pg 44 0 (.seq (.reg none i44_R13) .ret) (qf_44 r))) := by
  intro n
  induction n with
  | zero => intro want v19 h; unfold m_types_of_l1 at h; cases h
  | succ n ih => intro want v19 h; unfold m_types_of_l1 at h; exact w_m_types_of_l1_B hrec_m_types_of ih h
theorem w_m_types_of_B {x0 : TExpr} {r : (Int × Int)} {rec_m_types_of : TExpr → Option (Int × Int)} (hrec_m_types_of : ∀ {x0 : TExpr} {r : (Int × Int)}, rec_m_types_of x0 = some r → Spec Pg 44 [.agg [.int .i64 x0.Kind, .int .i64 x0.N, .str x0.Name, sl TExpr.c x0.Kids]] [] 0 (.tup [.int .i64 r.1, .int .i64 r.2]) [] 0) (h : m_types_of_B rec_m_types_of x0 = some r) : Spec Pg 44 [.agg [.int .i64 x0.Kind, .int .i64 x0.N, .str x0.Name, sl TExpr.c x0.Kids]] [] 0 (.tup [.int .i64 r.1, .int .i64 r.2]) [] 0 := by
  refine Spec.intro Go.Proofs.Try.func44 i44_ok (le_of_ble rfl) ?_
  show Wp Pg 44 0 i44_B ⟨argEnv [.agg [.int .i64 x0.Kind, .int .i64 x0.N, .str x0.Name, sl TExpr.c x0.Kids]] i44_V, [], [], 0⟩ (qf_44 r)
  unfold m_types_of_B at h
  unfold i44_B
  refine weakP [] ?_
  refine Wp.seq (regP (seqN (Wp.seq (Wp.reg ?_))))
  replace h := bndS h; obtain ⟨r0, g1, h⟩ := h
  refine chunkT 3 (tab_cons (w_m_types_shape g1) (tab_nil _)) ?_
  refine lastT (tab_nil _) (seqN (Wp.seq (Wp.seq ?_)))
  refine regP (seqN (Wp.block (Wp.loop ?_)))
  exact jumpL [.kill [0, 1, 2, 3, 6, 7, 8, 9, 20, 30, 37, 41], .tidy] (w_m_types_of_l1 hrec_m_types_of _ h)
theorem w_m_types_of : ∀ (n : Nat) {x0 : TExpr} {r : (Int × Int)}, m_types_of n x0 = some r → Spec Pg 44 [.agg [.int .i64 x0.Kind, .int .i64 x0.N, .str x0.Name, sl TExpr.c x0.Kids]] [] 0 (.tup [.int .i64 r.1, .int .i64 r.2]) [] 0 := by
  intro n
  induction n with
  | zero => intro x0 r h; unfold m_types_of at h; cases h
  | succ n ih => intro x0 r h; unfold m_types_of at h; exact w_m_types_of_B ih h
/-! funicular/types.Truth -/
noncomputable abbrev qf_26 (r : (Bool × Int)) : Ex → St → Prop := FinQ 0 [.tmp 2, .tmp 3] (.tup [.bool r.1, .int .i64 r.2]) [] 0
theorem w_m_types_Truth {x0 : TExpr} {r : (Bool × Int)}   (h : m_types_Truth x0 = some r) : Spec Pg 26 [.agg [.int .i64 x0.Kind, .int .i64 x0.N, .str x0.Name, sl TExpr.c x0.Kids]] [] 0 (.tup [.bool r.1, .int .i64 r.2]) [] 0 := by
  refine Spec.intro Go.Proofs.Try.func26 i26_ok (le_of_ble rfl) ?_
  show Wp Pg 20 0 i26_B ⟨argEnv [.agg [.int .i64 x0.Kind, .int .i64 x0.N, .str x0.Name, sl TExpr.c x0.Kids]] i26_V, [], [], 0⟩ (qf_26 r)
  unfold m_types_Truth at h
  unfold i26_B
  refine weakP [] ?_
  refine Wp.seq (regP (seqN (Wp.seq (Wp.seq (Wp.reg ?_)))))
  replace h := bndS h; obtain ⟨r0, g1, h⟩ := h
  refine chunkT 2 (tab_cons (w_m_expr_Check g1) (tab_nil _)) ?_
  refine lastT (tab_nil _) (seqN (Wp.seq ?_))
  refine regP (seqN ?_)
  replace h := ifS h; rcases h with ⟨g2, h⟩ | ⟨g2, h⟩
  · replace h := retS h; subst h
    refine condTP (Wp.seq ?_)
    refine regP (seqN (Wp.ret (seqR ?_)))
    exact finP
  · refine condFP (Wp.skip (seqN (Wp.seq (Wp.reg ?_))))
    replace h := bndS h; obtain ⟨r0_1, g3, h⟩ := h
    replace h := retS h; subst h
    refine chunkT 2 (tab_cons (w_m_types_of _ g3) (tab_nil _)) ?_
    refine lastT (tab_nil _) (seqN (Wp.seq ?_))
    refine regP (seqN (Wp.ret ?_))
    exact finP
end Go.Proofs.Ytcmejocmohohpaa.R
