/- The program's functions answer what the models answer: 9. -/
import Derived.Test.YtcmejocmohohpaaMW0
import Derived.Test.YtcmejocmohohpaaMW2
import Derived.Test.YtcmejocmohohpaaMW4
import Derived.Test.YtcmejocmohohpaaMW6
import Derived.Test.YtcmejocmohohpaaMW8
set_option maxRecDepth 100000
set_option linter.unusedVariables false
set_option linter.unusedSimpArgs false
noncomputable section
namespace Go.Proofs.Ytcmejocmohohpaa.R
open Go Nat
/-! funicular/funicularref08.Names -/
noncomputable abbrev qf_21 (r : (List ByteArray)) : Ex → St → Prop := FinQ 0 [.tmp 2] (sl cs r) [] 0
theorem w_m_ref08_Names_k3 {r0_1 : (List ByteArray)} {out : (List ByteArray)} {best_2 : ByteArray} {r : (List ByteArray)} {rec_m_ref08_Names_l1 : ByteArray → (List ByteArray) → Option (List ByteArray)} (hrec_m_ref08_Names_l1 : ∀ {last : ByteArray} {out : (List ByteArray)}, rec_m_ref08_Names_l1 last out = some r → LWp Pg 49 0 i21_L1 ⟨[(0, .bad), (1, .bad), (2, .bad), (3, sl cs r0_1), (4, .own 1 0 0 out.length false), (5, .str last), (6, .bad), (7, .bad), (10, .bad), (16, .bad), (36, .bad), (42, .bad)], [], [(0, .arr 1 (List.map cs out) 0)], 1⟩ (blockQ 0 (seqQ Pg 49 0 (.seq (.reg none i21_R15) .ret) (qf_21 r)))) (h : m_ref08_Names_k3 rec_m_ref08_Names_l1 out best_2 = some r) : Wp Pg 49 0 (.seq (.seq (.reg none i21_R12) (.cond (.t 42) (.out 0) .skip)) (.seq (.reg none i21_R13) (.reg none i21_R14))) ⟨[(0, .bad), (1, .bad), (2, .bad), (3, sl cs r0_1), (4, .own 1 0 0 out.length false), (5, .bad), (6, .str best_2), (7, .bad), (10, .bad), (16, .bad), (36, .bad), (42, .bad)], [], [(0, .arr 1 (List.map cs out) 0)], 1⟩ (blockQ 1 (loopQ Pg 49 0 i21_L1 (blockQ 0 (seqQ Pg 49 0 (.seq (.reg none i21_R15) .ret) (qf_21 r))))) := by
  unfold m_ref08_Names_k3 at h
  refine Wp.seq (Wp.seq (regP (seqN ?_)))
  replace h := ifS h; rcases h with ⟨g10, h⟩ | ⟨g10, h⟩
  · replace h := retS h; subst h
    refine condTP (Wp.out (seqO (blockP rfl (loopO (blockO (seqN (Wp.seq ?_)))))))
    refine regP (seqN ?_)
    refine weakP [.at 2 .frz] (Wp.ret ?_)
    exact finP
  · refine condFP (Wp.skip (seqN (Wp.seq ?_)))
    replace h := reqS h; obtain ⟨g11, h⟩ := h
    refine regP (seqN ?_)
    refine regP (blockN (loopN ?_))
    exact jumpL [.kill [6, 42], .tidy] (hrec_m_ref08_Names_l1 h)
theorem w_m_ref08_Names_k2 {r0_1 : (List ByteArray)} {last : ByteArray} {out : (List ByteArray)} {i : Int} {best_1 : ByteArray} {r : (List ByteArray)} {rec_m_ref08_Names_l2 : ByteArray → Int → Option (List ByteArray)} (hrec_m_ref08_Names_l2 : ∀ {best : ByteArray} {i : Int}, rec_m_ref08_Names_l2 best i = some r → LWp Pg 49 0 i21_L0 ⟨[(0, .bad), (1, .bad), (2, .bad), (3, sl cs r0_1), (4, .own 1 0 0 out.length false), (5, .str last), (6, .str best), (7, .int .i64 i), (10, .bad), (16, .bad), (36, .bad), (42, .bad)], [], [(0, .arr 1 (List.map cs out) 0)], 1⟩ (blockQ 2 (seqQ Pg 49 0 (.seq (.seq (.reg none i21_R12) (.cond (.t 42) (.out 0) .skip)) (.seq (.reg none i21_R13) (.reg none i21_R14))) (blockQ 1 (loopQ Pg 49 0 i21_L1 (blockQ 0 (seqQ Pg 49 0 (.seq (.reg none i21_R15) .ret) (qf_21 r)))))))) (h : m_ref08_Names_k2 rec_m_ref08_Names_l2 i best_1 = some r) : Wp Pg 49 0 (.reg none i21_R11) ⟨[(0, .bad), (1, .bad), (2, .bad), (3, sl cs r0_1), (4, .own 1 0 0 out.length false), (5, .str last), (6, .str best_1), (7, .int .i64 i), (10, .bad), (16, .bad), (36, .bad), (42, .bad)], [], [(0, .arr 1 (List.map cs out) 0)], 1⟩ (loopQ Pg 49 0 i21_L0 (blockQ 2 (seqQ Pg 49 0 (.seq (.seq (.reg none i21_R12) (.cond (.t 42) (.out 0) .skip)) (.seq (.reg none i21_R13) (.reg none i21_R14))) (blockQ 1 (loopQ Pg 49 0 i21_L1 (blockQ 0 (seqQ Pg 49 0 (.seq (.reg none i21_R15) .ret) (qf_21 r)))))))) := by
  unfold m_ref08_Names_k2 at h
  refine regP (loopN ?_)
  exact jumpL [] (hrec_m_ref08_Names_l2 h)
theorem w_m_ref08_Names_k1 {last : ByteArray} {out : (List ByteArray)} {r0_1 : (List ByteArray)} {best : ByteArray} {i : Int} {v36 : Bool} {r : (List ByteArray)} {rec_m_ref08_Names_l2 : ByteArray → Int → Option (List ByteArray)} (hrec_m_ref08_Names_l2 : ∀ {best : ByteArray} {i : Int}, rec_m_ref08_Names_l2 best i = some r → LWp Pg 49 0 i21_L0 ⟨[(0, .bad), (1, .bad), (2, .bad), (3, sl cs r0_1), (4, .own 1 0 0 out.length false), (5, .str last), (6, .str best), (7, .int .i64 i), (10, .bad), (16, .bad), (36, .bad), (42, .bad)], [], [(0, .arr 1 (List.map cs out) 0)], 1⟩ (blockQ 2 (seqQ Pg 49 0 (.seq (.seq (.reg none i21_R12) (.cond (.t 42) (.out 0) .skip)) (.seq (.reg none i21_R13) (.reg none i21_R14))) (blockQ 1 (loopQ Pg 49 0 i21_L1 (blockQ 0 (seqQ Pg 49 0 (.seq (.reg none i21_R15) .ret) (qf_21 r)))))))) (h : m_ref08_Names_k1 rec_m_ref08_Names_l2 r0_1 best i v36 = some r) : Wp Pg 49 0 (.cond (.t 36) (.reg none i21_R10) .skip) ⟨[(0, .bad), (1, .bad), (2, .bad), (3, sl cs r0_1), (4, .own 1 0 0 out.length false), (5, .str last), (6, .str best), (7, .int .i64 i), (10, .bad), (16, .bad), (36, .bool v36), (42, .bad)], [], [(0, .arr 1 (List.map cs out) 0)], 1⟩ (blockQ 3 (seqQ Pg 49 0 (.reg none i21_R11) (loopQ Pg 49 0 i21_L0 (blockQ 2 (seqQ Pg 49 0 (.seq (.seq (.reg none i21_R12) (.cond (.t 42) (.out 0) .skip)) (.seq (.reg none i21_R13) (.reg none i21_R14))) (blockQ 1 (loopQ Pg 49 0 i21_L1 (blockQ 0 (seqQ Pg 49 0 (.seq (.reg none i21_R15) .ret) (qf_21 r)))))))))) := by
  unfold m_ref08_Names_k1 at h
  replace h := ifS h; rcases h with ⟨g8, h⟩ | ⟨g8, h⟩
  · refine condTP ?_
    replace h := bndS h; obtain ⟨e_1, g9, h⟩ := h
    refine regP (blockN (seqN ?_))
    exact jumpK [.kill [36]] (w_m_ref08_Names_k2 (r0_1 := r0_1) (last := last) (out := out) hrec_m_ref08_Names_l2 h)
  · refine condFP (Wp.skip (blockN (seqN ?_)))
    exact jumpK [.kill [36]] (w_m_ref08_Names_k2 (r0_1 := r0_1) (last := last) (out := out) hrec_m_ref08_Names_l2 h)
theorem w_m_ref08_Names_l2_B {r0_1 : (List ByteArray)} {last : ByteArray} {out : (List ByteArray)} {r : (List ByteArray)} {rec_m_ref08_Names_l1 : ByteArray → (List ByteArray) → Option (List ByteArray)} (hrec_m_ref08_Names_l1 : ∀ {last : ByteArray} {out : (List ByteArray)}, rec_m_ref08_Names_l1 last out = some r → LWp Pg 49 0 i21_L1 ⟨[(0, .bad), (1, .bad), (2, .bad), (3, sl cs r0_1), (4, .own 1 0 0 out.length false), (5, .str last), (6, .bad), (7, .bad), (10, .bad), (16, .bad), (36, .bad), (42, .bad)], [], [(0, .arr 1 (List.map cs out) 0)], 1⟩ (blockQ 0 (seqQ Pg 49 0 (.seq (.reg none i21_R15) .ret) (qf_21 r)))) {rec_m_ref08_Names_l2 : ByteArray → Int → Option (List ByteArray)} (hrec_m_ref08_Names_l2 : ∀ {best : ByteArray} {i : Int}, rec_m_ref08_Names_l2 best i = some r → LWp Pg 49 0 i21_L0 ⟨[(0, .bad), (1, .bad), (2, .bad), (3, sl cs r0_1), (4, .own 1 0 0 out.length false), (5, .str last), (6, .str best), (7, .int .i64 i), (10, .bad), (16, .bad), (36, .bad), (42, .bad)], [], [(0, .arr 1 (List.map cs out) 0)], 1⟩ (blockQ 2 (seqQ Pg 49 0 (.seq (.seq (.reg none i21_R12) (.cond (.t 42) (.out 0) .skip)) (.seq (.reg none i21_R13) (.reg none i21_R14))) (blockQ 1 (loopQ Pg 49 0 i21_L1 (blockQ 0 (seqQ Pg 49 0 (.seq (.reg none i21_R15) .ret) (qf_21 r)))))))) {best : ByteArray} {i : Int} (h : m_ref08_Names_l2_B rec_m_ref08_Names_l1 r0_1 last out rec_m_ref08_Names_l2 best i = some r) : LWp Pg 49 0 i21_L0 ⟨[(0, .bad), (1, .bad), (2, .bad), (3, sl cs r0_1), (4, .own 1 0 0 out.length false), (5, .str last), (6, .str best), (7, .int .i64 i), (10, .bad), (16, .bad), (36, .bad), (42, .bad)], [], [(0, .arr 1 (List.map cs out) 0)], 1⟩ (blockQ 2 (seqQ Pg 49 0 (.seq (.seq (.reg none i21_R12) (.cond (.t 42) (.out 0) .skip)) (.seq (.reg none i21_R13) (.reg none i21_R14))) (blockQ 1 (loopQ Pg 49 0 i21_L1 (blockQ 0 (seqQ Pg 49 0 (.seq (.reg none i21_R15) .ret) (qf_21 r))))))) := by
  unfold m_ref08_Names_l2_B at h
  refine LWp.stepC i21_L0.eq_1 ?_
  refine Wp.seq (Wp.seq (regP (seqN ?_)))
  replace h := ifS h; rcases h with ⟨g4, h⟩ | ⟨g4, h⟩
  · refine condTP (Wp.skip (seqN (Wp.seq (Wp.block (Wp.seq ?_)))))
    replace h := bndS h; obtain ⟨e, g5, h⟩ := h
    replace h := ifS h; rcases h with ⟨g6, h⟩ | ⟨g6, h⟩
    · refine regP (seqN ?_)
      exact jumpK [.kill [16]] (w_m_ref08_Names_k1 (last := last) (out := out) hrec_m_ref08_Names_l2 h)
    · replace h := ifS h; rcases h with ⟨g7, h⟩ | ⟨g7, h⟩
      · refine regP (seqN ?_)
        exact jumpK [.kill [16]] (w_m_ref08_Names_k1 (last := last) (out := out) hrec_m_ref08_Names_l2 h)
      · refine regP (seqN ?_)
        exact jumpK [.kill [16]] (w_m_ref08_Names_k1 (last := last) (out := out) hrec_m_ref08_Names_l2 h)
  · refine condFP (Wp.out (seqO (loopO (blockO (seqN ?_)))))
    exact jumpK [.kill [5, 7, 16]] (w_m_ref08_Names_k3 (r0_1 := r0_1) hrec_m_ref08_Names_l1 h)
theorem w_m_ref08_Names_l2 {r0_1 : (List ByteArray)} {last : ByteArray} {out : (List ByteArray)} {r : (List ByteArray)} {rec_m_ref08_Names_l1 : ByteArray → (List ByteArray) → Option (List ByteArray)} (hrec_m_ref08_Names_l1 : ∀ {last : ByteArray} {out : (List ByteArray)}, rec_m_ref08_Names_l1 last out = some r → LWp Pg 49 0 i21_L1 ⟨[(0, .bad), (1, .bad), (2, .bad), (3, sl cs r0_1), (4, .own 1 0 0 out.length false), (5, .str last), (6, .bad), (7, .bad), (10, .bad), (16, .bad), (36, .bad), (42, .bad)], [], [(0, .arr 1 (List.map cs out) 0)], 1⟩ (blockQ 0 (seqQ Pg 49 0 (.seq (.reg none i21_R15) .ret) (qf_21 r)))) : ∀ (n : Nat) {best : ByteArray} {i : Int}, m_ref08_Names_l2 rec_m_ref08_Names_l1 r0_1 last out n best i = some r → LWp Pg 49 0 i21_L0 ⟨[(0, .bad), (1, .bad), (2, .bad), (3, sl cs r0_1), (4, .own 1 0 0 out.length false), (5, .str last), (6, .str best), (7, .int .i64 i), (10, .bad), (16, .bad), (36, .bad), (42, .bad)], [], [(0, .arr 1 (List.map cs out) 0)], 1⟩ (blockQ 2 (seqQ Pg 49 0 (.seq (.seq (.reg none i21_R12) (.cond (.t 42) (.out 0) .skip)) (.seq (.reg none i21_R13) (.reg none i21_R14))) (blockQ 1 (loopQ Pg 49 0 i21_L1 (blockQ 0 (seqQ Pg 49 0 (.seq (.reg none i21_R15) .ret) (qf_21 r))))))) := by
  intro n
  induction n with
  | zero => intro best i h; unfold m_ref08_Names_l2 at h; cases h
  | succ n ih => intro best i h; unfold m_ref08_Names_l2 at h; exact w_m_ref08_Names_l2_B hrec_m_ref08_Names_l1 ih h
theorem w_m_ref08_Names_l1_B {r0_1 : (List ByteArray)} {r : (List ByteArray)}   {rec_m_ref08_Names_l1 : ByteArray → (List ByteArray) → Option (List ByteArray)} (hrec_m_ref08_Names_l1 : ∀ {last : ByteArray} {out : (List ByteArray)}, rec_m_ref08_Names_l1 last out = some r → LWp Pg 49 0 i21_L1 ⟨[(0, .bad), (1, .bad), (2, .bad), (3, sl cs r0_1), (4, .own 1 0 0 out.length false), (5, .str last), (6, .bad), (7, .bad), (10, .bad), (16, .bad), (36, .bad), (42, .bad)], [], [(0, .arr 1 (List.map cs out) 0)], 1⟩ (blockQ 0 (seqQ Pg 49 0 (.seq (.reg none i21_R15) .ret) (qf_21 r)))) {last : ByteArray} {out : (List ByteArray)} (h : m_ref08_Names_l1_B  r0_1 rec_m_ref08_Names_l1 last out = some r) : LWp Pg 49 0 i21_L1 ⟨[(0, .bad), (1, .bad), (2, .bad), (3, sl cs r0_1), (4, .own 1 0 0 out.length false), (5, .str last), (6, .bad), (7, .bad), (10, .bad), (16, .bad), (36, .bad), (42, .bad)], [], [(0, .arr 1 (List.map cs out) 0)], 1⟩ (blockQ 0 (seqQ Pg 49 0 (.seq (.reg none i21_R15) .ret) (qf_21 r))) := by
  unfold m_ref08_Names_l1_B at h
  refine LWp.stepC i21_L1.eq_1 ?_
  refine Wp.block (Wp.seq (regP (seqN (Wp.seq (Wp.seq ?_)))))
  refine regP (seqN (Wp.block (Wp.loop ?_)))
  exact jumpL [] (w_m_ref08_Names_l2 hrec_m_ref08_Names_l1 _ h)
theorem w_m_ref08_Names_l1 {r0_1 : (List ByteArray)} {r : (List ByteArray)}   : ∀ (n : Nat) {last : ByteArray} {out : (List ByteArray)}, m_ref08_Names_l1  r0_1 n last out = some r → LWp Pg 49 0 i21_L1 ⟨[(0, .bad), (1, .bad), (2, .bad), (3, sl cs r0_1), (4, .own 1 0 0 out.length false), (5, .str last), (6, .bad), (7, .bad), (10, .bad), (16, .bad), (36, .bad), (42, .bad)], [], [(0, .arr 1 (List.map cs out) 0)], 1⟩ (blockQ 0 (seqQ Pg 49 0 (.seq (.reg none i21_R15) .ret) (qf_21 r))) := by
  intro n
  induction n with
  | zero => intro last out h; unfold m_ref08_Names_l1 at h; cases h
  | succ n ih => intro last out h; unfold m_ref08_Names_l1 at h; exact w_m_ref08_Names_l1_B  ih h
theorem w_m_ref08_Names {x0 : TExpr} {r : (List ByteArray)}   (h : m_ref08_Names x0 = some r) : Spec Pg 21 [.agg [.int .i64 x0.Kind, .int .i64 x0.N, .str x0.Name, sl TExpr.c x0.Kids]] [] 0 (sl cs r) [] 0 := by
  refine Spec.intro Go.Proofs.Try.func21 i21_ok (le_of_ble rfl) ?_
  show Wp Pg 49 0 i21_B ⟨argEnv [.agg [.int .i64 x0.Kind, .int .i64 x0.N, .str x0.Name, sl TExpr.c x0.Kids]] i21_V, [], [], 0⟩ (qf_21 r)
  unfold m_ref08_Names at h
  unfold i21_B
  refine weakP [] ?_
  refine Wp.seq (regP (seqN (Wp.seq (Wp.seq (Wp.reg ?_)))))
  replace h := bndS h; obtain ⟨r0, g1, h⟩ := h
  refine chunkT 2 (tab_cons (w_m_ref07_Check g1) (tab_nil _)) ?_
  refine lastT (tab_nil _) (seqN ?_)
  replace h := ifS h; rcases h with ⟨g2, h⟩ | ⟨g2, h⟩
  · replace h := retS h; subst h
    refine condTP (Wp.seq ?_)
    refine regP (seqN ?_)
    refine weakP [.at 2 .frz] (Wp.ret (seqR ?_))
    exact finP
  · refine condFP (Wp.skip (seqN (Wp.seq (Wp.reg ?_))))
    replace h := bndS h; obtain ⟨r0_1, g3, h⟩ := h
    refine chunkT 2 (tab_cons (w_m_ref08_collect _ g3) (tab_nil _)) ?_
    refine lastT (tab_nil _) (seqN (Wp.seq ?_))
    refine regP (seqN (Wp.seq ?_))
    refine regP (seqN (Wp.seq (Wp.block (Wp.loop ?_))))
    exact jumpL [.kill [0, 1, 2, 6, 7, 10, 16, 36, 42], .at 4 (.virt 1), .tidy] (w_m_ref08_Names_l1 _ h)
/-! funicular/funicularref08.rename -/
noncomputable abbrev qf_38 (r : TExpr) : Ex → St → Prop := FinQ 0 [.cell 6 true 4] (.agg [.int .i64 r.Kind, .int .i64 r.N, .str r.Name, sl TExpr.c r.Kids]) [] 0
theorem w_m_ref08_rename_l1_B {x0 : TExpr} {from0 : ByteArray} {to0 : ByteArray} {r : TExpr} {rec_m_ref08_rename : TExpr → ByteArray → ByteArray → Option TExpr} (hrec_m_ref08_rename : ∀ {x0 : TExpr} {from0 : ByteArray} {to0 : ByteArray} {r : TExpr}, rec_m_ref08_rename x0 from0 to0 = some r → Spec Pg 38 [.agg [.int .i64 x0.Kind, .int .i64 x0.N, .str x0.Name, sl TExpr.c x0.Kids], .str from0, .str to0] [] 0 (.agg [.int .i64 r.Kind, .int .i64 r.N, .str r.Name, sl TExpr.c r.Kids]) [] 0) {rec_m_ref08_rename_l1 : Int → (List TExpr) → Option TExpr} (hrec_m_ref08_rename_l1 : ∀ {i : Int} {y_3 : (List TExpr)}, rec_m_ref08_rename_l1 i y_3 = some r → LWp Pg 48 0 i38_L0 ⟨[(0, .bad), (1, .str from0), (2, .str to0), (3, .ptr 0 0), (6, .ptr 1 0), (7, .ptr 2 0), (8, .int .i64 i), (17, .bad), (31, .bad)], [], [(0, .box [.int .i64 x0.Kind, .int .i64 x0.N, .str x0.Name, sl TExpr.c x0.Kids]), (1, .box [.int .i64 (0 : Int), .int .i64 (0 : Int), .str (⟨#[]⟩), .nil]), (2, .box [.int .i64 x0.Kind, .int .i64 x0.N, .str x0.Name, .own 4 3 0 y_3.length false]), (3, .arr 4 (List.map TExpr.c y_3) 0)], 4⟩ (blockQ 0 (seqQ Pg 48 0 (.seq (.reg none i38_R8) .ret) (qf_38 r)))) {i : Int} {y_3 : (List TExpr)} (h : m_ref08_rename_l1_B rec_m_ref08_rename x0 from0 to0 rec_m_ref08_rename_l1 i y_3 = some r) : LWp Pg 48 0 i38_L0 ⟨[(0, .bad), (1, .str from0), (2, .str to0), (3, .ptr 0 0), (6, .ptr 1 0), (7, .ptr 2 0), (8, .int .i64 i), (17, .bad), (31, .bad)], [], [(0, .box [.int .i64 x0.Kind, .int .i64 x0.N, .str x0.Name, sl TExpr.c x0.Kids]), (1, .box [.int .i64 (0 : Int), .int .i64 (0 : Int), .str (⟨#[]⟩), .nil]), (2, .box [.int .i64 x0.Kind, .int .i64 x0.N, .str x0.Name, .own 4 3 0 y_3.length false]), (3, .arr 4 (List.map TExpr.c y_3) 0)], 4⟩ (blockQ 0 (seqQ Pg 48 0 (.seq (.reg none i38_R8) .ret) (qf_38 r))) := by
  unfold m_ref08_rename_l1_B at h
  refine LWp.stepC i38_L0.eq_1 ?_
  refine Wp.seq (Wp.seq (regP (seqN ?_)))
  replace h := ifS h; rcases h with ⟨g3, h⟩ | ⟨g3, h⟩
  · refine condTP (Wp.skip (seqN (Wp.seq (Wp.block ?_))))
    replace h := bndS h; obtain ⟨e, g4, h⟩ := h
    replace h := bndS h; obtain ⟨r0, g5, h⟩ := h
    replace h := reqS h; obtain ⟨g6, h⟩ := h
    refine drawP mixed (tab_cons (hrec_m_ref08_rename g5) (tab_nil _)) (blockN (seqN ?_))
    refine regP (loopN ?_)
    exact jumpL [.kill [31], .tidy] (hrec_m_ref08_rename_l1 h)
  · replace h := retS h; subst h
    refine condFP (Wp.out (seqO (loopO (blockO (seqN (Wp.seq ?_))))))
    refine regP (seqN ?_)
    refine weakP [.cell 6 3 .frz] (Wp.ret ?_)
    exact finP
theorem w_m_ref08_rename_l1 {x0 : TExpr} {from0 : ByteArray} {to0 : ByteArray} {r : TExpr} {rec_m_ref08_rename : TExpr → ByteArray → ByteArray → Option TExpr} (hrec_m_ref08_rename : ∀ {x0 : TExpr} {from0 : ByteArray} {to0 : ByteArray} {r : TExpr}, rec_m_ref08_rename x0 from0 to0 = some r → Spec Pg 38 [.agg [.int .i64 x0.Kind, .int .i64 x0.N, .str x0.Name, sl TExpr.c x0.Kids], .str from0, .str to0] [] 0 (.agg [.int .i64 r.Kind, .int .i64 r.N, .str r.Name, sl TExpr.c r.Kids]) [] 0) : ∀ (n : Nat) {i : Int} {y_3 : (List TExpr)}, m_ref08_rename_l1 rec_m_ref08_rename x0 from0 to0 n i y_3 = some r → LWp Pg 48 0 i38_L0 ⟨[(0, .bad), (1, .str from0), (2, .str to0), (3, .ptr 0 0), (6, .ptr 1 0), (7, .ptr 2 0), (8, .int .i64 i), (17, .bad), (31, .bad)], [], [(0, .box [.int .i64 x0.Kind, .int .i64 x0.N, .str x0.Name, sl TExpr.c x0.Kids]), (1, .box [.int .i64 (0 : Int), .int .i64 (0 : Int), .str (⟨#[]⟩), .nil]), (2, .box [.int .i64 x0.Kind, .int .i64 x0.N, .str x0.Name, .own 4 3 0 y_3.length false]), (3, .arr 4 (List.map TExpr.c y_3) 0)], 4⟩ (blockQ 0 (seqQ Pg 48 0 (.seq (.reg none i38_R8) .ret) (qf_38 r))) := by
  intro n
  induction n with
  | zero => intro i y_3 h; unfold m_ref08_rename_l1 at h; cases h
  | succ n ih => intro i y_3 h; unfold m_ref08_rename_l1 at h; exact w_m_ref08_rename_l1_B hrec_m_ref08_rename ih h
theorem w_m_ref08_rename_k1 {x0 : TExpr} {from0 : ByteArray} {to0 : ByteArray} {v17 : Bool} {r : TExpr} {rec_m_ref08_rename : TExpr → ByteArray → ByteArray → Option TExpr} (hrec_m_ref08_rename : ∀ {x0 : TExpr} {from0 : ByteArray} {to0 : ByteArray} {r : TExpr}, rec_m_ref08_rename x0 from0 to0 = some r → Spec Pg 38 [.agg [.int .i64 x0.Kind, .int .i64 x0.N, .str x0.Name, sl TExpr.c x0.Kids], .str from0, .str to0] [] 0 (.agg [.int .i64 r.Kind, .int .i64 r.N, .str r.Name, sl TExpr.c r.Kids]) [] 0) (h : m_ref08_rename_k1 rec_m_ref08_rename x0 from0 to0 v17 = some r) : Wp Pg 48 0 (.cond (.t 17) (.seq (.reg none i38_R2) .ret) .skip) ⟨[(0, .bad), (1, .str from0), (2, .str to0), (3, .ptr 0 0), (6, .ptr 1 0), (7, .bad), (8, .bad), (17, .bool v17), (31, .bad)], [], [(0, .box [.int .i64 x0.Kind, .int .i64 x0.N, .str x0.Name, sl TExpr.c x0.Kids]), (1, .box [.int .i64 (0 : Int), .int .i64 (0 : Int), .str (⟨#[]⟩), .nil])], 2⟩ (seqQ Pg 48 0 (.seq (.reg none i38_R3) (.seq (.seq (.reg none i38_R4) (.block 0 (.loop i38_L0))) (.seq (.reg none i38_R8) .ret))) (qf_38 r)) := by
  unfold m_ref08_rename_k1 at h
  replace h := ifS h; rcases h with ⟨g2, h⟩ | ⟨g2, h⟩
  · replace h := retS h; subst h
    refine condTP (Wp.seq ?_)
    refine regP (seqN ?_)
    refine weakP [.cell 6 3 .frz] (Wp.ret (seqR ?_))
    exact finP
  · refine condFP (Wp.skip (seqN (Wp.seq ?_)))
    refine regP (seqN (Wp.seq (Wp.seq ?_)))
    refine regP (seqN (Wp.block (Wp.loop ?_)))
    exact jumpL [.kill [17], .cell 7 3 (.virt 4), .tidy] (w_m_ref08_rename_l1 hrec_m_ref08_rename _ h)
theorem w_m_ref08_rename_B {x0 : TExpr} {from0 : ByteArray} {to0 : ByteArray} {r : TExpr} {rec_m_ref08_rename : TExpr → ByteArray → ByteArray → Option TExpr} (hrec_m_ref08_rename : ∀ {x0 : TExpr} {from0 : ByteArray} {to0 : ByteArray} {r : TExpr}, rec_m_ref08_rename x0 from0 to0 = some r → Spec Pg 38 [.agg [.int .i64 x0.Kind, .int .i64 x0.N, .str x0.Name, sl TExpr.c x0.Kids], .str from0, .str to0] [] 0 (.agg [.int .i64 r.Kind, .int .i64 r.N, .str r.Name, sl TExpr.c r.Kids]) [] 0) (h : m_ref08_rename_B rec_m_ref08_rename x0 from0 to0 = some r) : Spec Pg 38 [.agg [.int .i64 x0.Kind, .int .i64 x0.N, .str x0.Name, sl TExpr.c x0.Kids], .str from0, .str to0] [] 0 (.agg [.int .i64 r.Kind, .int .i64 r.N, .str r.Name, sl TExpr.c r.Kids]) [] 0 := by
  refine Spec.intro Go.Proofs.Try.func38 i38_ok (le_of_ble rfl) ?_
  show Wp Pg 48 0 i38_B ⟨argEnv [.agg [.int .i64 x0.Kind, .int .i64 x0.N, .str x0.Name, sl TExpr.c x0.Kids], .str from0, .str to0] i38_V, [], [], 0⟩ (qf_38 r)
  unfold m_ref08_rename_B at h
  unfold i38_B
  refine weakP [] ?_
  refine Wp.seq (regP (seqN (Wp.seq (Wp.seq ?_))))
  replace h := ifS h; rcases h with ⟨g1, h⟩ | ⟨g1, h⟩
  · refine regP (seqN ?_)
    exact jumpK [.kill [0, 7, 8, 31], .tidy] (w_m_ref08_rename_k1 hrec_m_ref08_rename h)
  · refine regP (seqN ?_)
    exact jumpK [.kill [0, 7, 8, 31], .tidy] (w_m_ref08_rename_k1 hrec_m_ref08_rename h)
theorem w_m_ref08_rename : ∀ (n : Nat) {x0 : TExpr} {from0 : ByteArray} {to0 : ByteArray} {r : TExpr}, m_ref08_rename n x0 from0 to0 = some r → Spec Pg 38 [.agg [.int .i64 x0.Kind, .int .i64 x0.N, .str x0.Name, sl TExpr.c x0.Kids], .str from0, .str to0] [] 0 (.agg [.int .i64 r.Kind, .int .i64 r.N, .str r.Name, sl TExpr.c r.Kids]) [] 0 := by
  intro n
  induction n with
  | zero => intro x0 from0 to0 r h; unfold m_ref08_rename at h; cases h
  | succ n ih => intro x0 from0 to0 r h; unfold m_ref08_rename at h; exact w_m_ref08_rename_B ih h
/-! funicular/funicularref08.Rename -/
noncomputable abbrev qf_23 (r : (TExpr × Int)) : Ex → St → Prop := FinQ 0 [.cell 6 true 4, .tmp 7] (.tup [.agg [.int .i64 r.1.Kind, .int .i64 r.1.N, .str r.1.Name, sl TExpr.c r.1.Kids], .int .i64 r.2]) [] 0
theorem w_m_ref08_Rename {x0 : TExpr} {from0 : ByteArray} {to0 : ByteArray} {r : (TExpr × Int)}   (h : m_ref08_Rename x0 from0 to0 = some r) : Spec Pg 23 [.agg [.int .i64 x0.Kind, .int .i64 x0.N, .str x0.Name, sl TExpr.c x0.Kids], .str from0, .str to0] [] 0 (.tup [.agg [.int .i64 r.1.Kind, .int .i64 r.1.N, .str r.1.Name, sl TExpr.c r.1.Kids], .int .i64 r.2]) [] 0 := by
  refine Spec.intro Go.Proofs.Try.func23 i23_ok (le_of_ble rfl) ?_
  show Wp Pg 27 0 i23_B ⟨argEnv [.agg [.int .i64 x0.Kind, .int .i64 x0.N, .str x0.Name, sl TExpr.c x0.Kids], .str from0, .str to0] i23_V, [], [], 0⟩ (qf_23 r)
  unfold m_ref08_Rename at h
  unfold i23_B
  refine weakP [] ?_
  refine Wp.seq (regP (seqN (Wp.seq (Wp.seq (Wp.reg ?_)))))
  replace h := bndS h; obtain ⟨r0, g1, h⟩ := h
  refine chunkT 2 (tab_cons (w_m_ref07_Check g1) (tab_nil _)) ?_
  refine lastT (tab_nil _) (seqN (Wp.seq ?_))
  refine regP (seqN ?_)
  replace h := ifS h; rcases h with ⟨g2, h⟩ | ⟨g2, h⟩
  · replace h := retS h; subst h
    refine condTP (Wp.seq ?_)
    refine regP (seqN ?_)
    refine weakP [.cell 6 3 .frz] (Wp.ret (seqR ?_))
    exact finP
  · refine condFP (Wp.skip (seqN (Wp.seq (Wp.seq (Wp.reg ?_)))))
    replace h := bndS h; obtain ⟨r0_1, g3, h⟩ := h
    refine chunkT 3 (tab_cons (w_m_ref07_Check g3) (tab_nil _)) ?_
    refine lastT (tab_nil _) (seqN (Wp.seq ?_))
    refine regP (seqN ?_)
    replace h := ifS h; rcases h with ⟨g4, h⟩ | ⟨g4, h⟩
    · replace h := retS h; subst h
      refine condTP (Wp.seq ?_)
      refine regP (seqN ?_)
      refine weakP [.cell 6 3 .frz] (Wp.ret (seqR ?_))
      exact finP
    · refine condFP (Wp.skip (seqN (Wp.seq (Wp.reg ?_))))
      replace h := bndS h; obtain ⟨r0_2, g5, h⟩ := h
      replace h := retS h; subst h
      refine chunkT 4 (tab_cons (w_m_ref08_rename _ g5) (tab_nil _)) ?_
      refine lastT (tab_nil _) (seqN (Wp.ret ?_))
      exact finP
/-! funicular/funicularref07.weigh -/
noncomputable abbrev qf_39 (r : Int) : Ex → St → Prop := FinQ 0 [.tmp 6] (.int .i64 r) [] 0
theorem w_m_ref07_weigh_k1 {x0 : TExpr} {most : Int} {deep : Int} {n0 : Int} {i : Int} {v23 : Bool} {r : Int} {rec_m_ref07_weigh : TExpr → Int → Int → Option Int} {rec_m_ref07_weigh_l1 : Int → Int → Option Int} (hrec_m_ref07_weigh : ∀ {x0 : TExpr} {most : Int} {deep : Int} {r : Int}, rec_m_ref07_weigh x0 most deep = some r → Spec Pg 39 [.agg [.int .i64 x0.Kind, .int .i64 x0.N, .str x0.Name, sl TExpr.c x0.Kids], .int .i64 most, .int .i64 deep] [] 0 (.int .i64 r) [] 0) (hrec_m_ref07_weigh_l1 : ∀ {n0 : Int} {i : Int}, rec_m_ref07_weigh_l1 n0 i = some r → LWp Pg 44 0 i39_L0 ⟨[(0, .bad), (1, .int .i64 most), (2, .int .i64 deep), (3, .ptr 0 0), (6, .bad), (7, .int .i64 n0), (8, .int .i64 i), (23, .bad), (27, .bad)], [], [(0, .box [.int .i64 x0.Kind, .int .i64 x0.N, .str x0.Name, sl TExpr.c x0.Kids])], 1⟩ (blockQ 0 (seqQ Pg 44 0 (.seq (.reg none i39_R8) .ret) (qf_39 r)))) (h : m_ref07_weigh_k1 rec_m_ref07_weigh rec_m_ref07_weigh_l1 x0 most deep n0 i v23 = some r) : Wp Pg 44 0 (.cond (.t 23) .skip (.out 0)) ⟨[(0, .bad), (1, .int .i64 most), (2, .int .i64 deep), (3, .ptr 0 0), (6, .bad), (7, .int .i64 n0), (8, .int .i64 i), (23, .bool v23), (27, .bad)], [], [(0, .box [.int .i64 x0.Kind, .int .i64 x0.N, .str x0.Name, sl TExpr.c x0.Kids])], 1⟩ (seqQ Pg 44 0 (.seq (.block 1 (.seq (.seq (.reg none i39_R4) (.cond (.t 27) (.seq (.reg none i39_R5) .ret) .skip)) (.reg none i39_R6))) (.reg none i39_R7)) (loopQ Pg 44 0 i39_L0 (blockQ 0 (seqQ Pg 44 0 (.seq (.reg none i39_R8) .ret) (qf_39 r))))) := by
  unfold m_ref07_weigh_k1 at h
  replace h := ifS h; rcases h with ⟨g2, h⟩ | ⟨g2, h⟩
  · refine condTP (Wp.skip (seqN (Wp.seq (Wp.block (Wp.seq (Wp.seq ?_))))))
    refine regP (seqN ?_)
    replace h := ifS h; rcases h with ⟨g3, h⟩ | ⟨g3, h⟩
    · replace h := retS h; subst h
      refine condTP (Wp.seq ?_)
      refine regP (seqN (Wp.ret (seqR (blockR (seqR (loopR (blockR (seqR ?_))))))))
      exact finP
    · refine condFP (Wp.skip (seqN (Wp.reg ?_)))
      replace h := bndS h; obtain ⟨e, g4, h⟩ := h
      replace h := bndS h; obtain ⟨r0, g5, h⟩ := h
      refine chunkT 12 (tab_cons (hrec_m_ref07_weigh g5) (tab_nil _)) ?_
      refine lastT (tab_nil _) (blockN (seqN ?_))
      refine regP (loopN ?_)
      exact jumpL [.kill [23, 27]] (hrec_m_ref07_weigh_l1 h)
  · replace h := retS h; subst h
    refine condFP (Wp.out (seqO (loopO (blockO (seqN (Wp.seq ?_))))))
    refine regP (seqN (Wp.ret ?_))
    exact finP
theorem w_m_ref07_weigh_l1_B {x0 : TExpr} {most : Int} {deep : Int} {r : Int} {rec_m_ref07_weigh : TExpr → Int → Int → Option Int} (hrec_m_ref07_weigh : ∀ {x0 : TExpr} {most : Int} {deep : Int} {r : Int}, rec_m_ref07_weigh x0 most deep = some r → Spec Pg 39 [.agg [.int .i64 x0.Kind, .int .i64 x0.N, .str x0.Name, sl TExpr.c x0.Kids], .int .i64 most, .int .i64 deep] [] 0 (.int .i64 r) [] 0) {rec_m_ref07_weigh_l1 : Int → Int → Option Int} (hrec_m_ref07_weigh_l1 : ∀ {n0 : Int} {i : Int}, rec_m_ref07_weigh_l1 n0 i = some r → LWp Pg 44 0 i39_L0 ⟨[(0, .bad), (1, .int .i64 most), (2, .int .i64 deep), (3, .ptr 0 0), (6, .bad), (7, .int .i64 n0), (8, .int .i64 i), (23, .bad), (27, .bad)], [], [(0, .box [.int .i64 x0.Kind, .int .i64 x0.N, .str x0.Name, sl TExpr.c x0.Kids])], 1⟩ (blockQ 0 (seqQ Pg 44 0 (.seq (.reg none i39_R8) .ret) (qf_39 r)))) {n0 : Int} {i : Int} (h : m_ref07_weigh_l1_B rec_m_ref07_weigh x0 most deep rec_m_ref07_weigh_l1 n0 i = some r) : LWp Pg 44 0 i39_L0 ⟨[(0, .bad), (1, .int .i64 most), (2, .int .i64 deep), (3, .ptr 0 0), (6, .bad), (7, .int .i64 n0), (8, .int .i64 i), (23, .bad), (27, .bad)], [], [(0, .box [.int .i64 x0.Kind, .int .i64 x0.N, .str x0.Name, sl TExpr.c x0.Kids])], 1⟩ (blockQ 0 (seqQ Pg 44 0 (.seq (.reg none i39_R8) .ret) (qf_39 r))) := by
  unfold m_ref07_weigh_l1_B at h
  refine LWp.stepC i39_L0.eq_1 ?_
  refine Wp.seq (Wp.seq ?_)
  replace h := ifS h; rcases h with ⟨g1, h⟩ | ⟨g1, h⟩
  · refine regP (seqN ?_)
    exact jumpK [] (w_m_ref07_weigh_k1 hrec_m_ref07_weigh hrec_m_ref07_weigh_l1 h)
  · refine regP (seqN ?_)
    exact jumpK [] (w_m_ref07_weigh_k1 hrec_m_ref07_weigh hrec_m_ref07_weigh_l1 h)
theorem w_m_ref07_weigh_l1 {x0 : TExpr} {most : Int} {deep : Int} {r : Int} {rec_m_ref07_weigh : TExpr → Int → Int → Option Int} (hrec_m_ref07_weigh : ∀ {x0 : TExpr} {most : Int} {deep : Int} {r : Int}, rec_m_ref07_weigh x0 most deep = some r → Spec Pg 39 [.agg [.int .i64 x0.Kind, .int .i64 x0.N, .str x0.Name, sl TExpr.c x0.Kids], .int .i64 most, .int .i64 deep] [] 0 (.int .i64 r) [] 0) : ∀ (n : Nat) {n0 : Int} {i : Int}, m_ref07_weigh_l1 rec_m_ref07_weigh x0 most deep n n0 i = some r → LWp Pg 44 0 i39_L0 ⟨[(0, .bad), (1, .int .i64 most), (2, .int .i64 deep), (3, .ptr 0 0), (6, .bad), (7, .int .i64 n0), (8, .int .i64 i), (23, .bad), (27, .bad)], [], [(0, .box [.int .i64 x0.Kind, .int .i64 x0.N, .str x0.Name, sl TExpr.c x0.Kids])], 1⟩ (blockQ 0 (seqQ Pg 44 0 (.seq (.reg none i39_R8) .ret) (qf_39 r))) := by
  intro n
  induction n with
  | zero => intro n0 i h; unfold m_ref07_weigh_l1 at h; cases h
  | succ n ih => intro n0 i h; unfold m_ref07_weigh_l1 at h; exact w_m_ref07_weigh_l1_B hrec_m_ref07_weigh ih h
theorem w_m_ref07_weigh_B {x0 : TExpr} {most : Int} {deep : Int} {r : Int} {rec_m_ref07_weigh : TExpr → Int → Int → Option Int} (hrec_m_ref07_weigh : ∀ {x0 : TExpr} {most : Int} {deep : Int} {r : Int}, rec_m_ref07_weigh x0 most deep = some r → Spec Pg 39 [.agg [.int .i64 x0.Kind, .int .i64 x0.N, .str x0.Name, sl TExpr.c x0.Kids], .int .i64 most, .int .i64 deep] [] 0 (.int .i64 r) [] 0) (h : m_ref07_weigh_B rec_m_ref07_weigh x0 most deep = some r) : Spec Pg 39 [.agg [.int .i64 x0.Kind, .int .i64 x0.N, .str x0.Name, sl TExpr.c x0.Kids], .int .i64 most, .int .i64 deep] [] 0 (.int .i64 r) [] 0 := by
  refine Spec.intro Go.Proofs.Try.func39 i39_ok (le_of_ble rfl) ?_
  show Wp Pg 44 0 i39_B ⟨argEnv [.agg [.int .i64 x0.Kind, .int .i64 x0.N, .str x0.Name, sl TExpr.c x0.Kids], .int .i64 most, .int .i64 deep] i39_V, [], [], 0⟩ (qf_39 r)
  unfold m_ref07_weigh_B at h
  unfold i39_B
  refine weakP [] ?_
  refine Wp.seq (regP (seqN (Wp.seq ?_)))
  refine regP (seqN (Wp.seq (Wp.seq ?_)))
  refine regP (seqN (Wp.block (Wp.loop ?_)))
  exact jumpL [.kill [0, 6, 23, 27]] (w_m_ref07_weigh_l1 hrec_m_ref07_weigh _ h)
theorem w_m_ref07_weigh : ∀ (n : Nat) {x0 : TExpr} {most : Int} {deep : Int} {r : Int}, m_ref07_weigh n x0 most deep = some r → Spec Pg 39 [.agg [.int .i64 x0.Kind, .int .i64 x0.N, .str x0.Name, sl TExpr.c x0.Kids], .int .i64 most, .int .i64 deep] [] 0 (.int .i64 r) [] 0 := by
  intro n
  induction n with
  | zero => intro x0 most deep r h; unfold m_ref07_weigh at h; cases h
  | succ n ih => intro x0 most deep r h; unfold m_ref07_weigh at h; exact w_m_ref07_weigh_B ih h
/-! funicular/funicularref07.Weight -/
noncomputable abbrev qf_24 (r : Int) : Ex → St → Prop := FinQ 0 [.tmp 4] (.int .i64 r) [] 0
theorem w_m_ref07_Weight {x0 : TExpr} {most : Int} {r : Int}   (h : m_ref07_Weight x0 most = some r) : Spec Pg 24 [.agg [.int .i64 x0.Kind, .int .i64 x0.N, .str x0.Name, sl TExpr.c x0.Kids], .int .i64 most] [] 0 (.int .i64 r) [] 0 := by
  refine Spec.intro Go.Proofs.Try.func24 i24_ok (le_of_ble rfl) ?_
  show Wp Pg 8 0 i24_B ⟨argEnv [.agg [.int .i64 x0.Kind, .int .i64 x0.N, .str x0.Name, sl TExpr.c x0.Kids], .int .i64 most] i24_V, [], [], 0⟩ (qf_24 r)
  unfold m_ref07_Weight at h
  unfold i24_B
  refine weakP [] ?_
  refine Wp.seq (regP (seqN (Wp.seq (Wp.reg ?_))))
  replace h := bndS h; obtain ⟨r0, g1, h⟩ := h
  replace h := retS h; subst h
  refine chunkT 3 (tab_cons (w_m_ref07_weigh _ g1) (tab_nil _)) ?_
  refine lastT (tab_nil _) (seqN (Wp.ret ?_))
  exact finP
/-! funicular/funicularlaw10.light -/
noncomputable abbrev qf_9 (r : Bool) : Ex → St → Prop := FinQ 0 [.tmp 4] (.bool r) [] 0
theorem w_m_law10_light {x0 : TExpr} {v : TVars} {r : Bool}   (h : m_law10_light x0 v = some r) : Spec Pg 9 [.agg [.int .i64 x0.Kind, .int .i64 x0.N, .str x0.Name, sl TExpr.c x0.Kids], .agg [sl cs v.Names, sl (ci .i64) v.Vals]] [] 0 (.bool r) [] 0 := by
  refine Spec.intro Go.Proofs.Try.func9 i9_ok (le_of_ble rfl) ?_
  show Wp Pg 20 0 i9_B ⟨argEnv [.agg [.int .i64 x0.Kind, .int .i64 x0.N, .str x0.Name, sl TExpr.c x0.Kids], .agg [sl cs v.Names, sl (ci .i64) v.Vals]] i9_V, [], [], 0⟩ (qf_9 r)
  unfold m_law10_light at h
  unfold i9_B
  refine weakP [] ?_
  refine Wp.seq (regP (seqN (Wp.seq (Wp.reg ?_))))
  replace h := bndS h; obtain ⟨r0, g1, h⟩ := h
  refine chunkT 2 (tab_cons (w_m_ref07_Weight g1) (tab_nil _)) ?_
  replace h := ifS h; rcases h with ⟨g2, h⟩ | ⟨g2, h⟩
  · replace h := ifS h; rcases h with ⟨g3, h⟩ | ⟨g3, h⟩
    · replace h := retS h; subst h
      refine lastT (tab_nil _) (seqN (Wp.ret ?_))
      exact finP
    · replace h := retS h; subst h
      refine lastT (tab_nil _) (seqN (Wp.ret ?_))
      exact finP
  · replace h := retS h; subst h
    refine lastT (tab_nil _) (seqN (Wp.ret ?_))
    exact finP
/-! funicular/funicularlaw10.EvalOf -/
/-! funicular/funicularlaw10.EvalAs -/
end Go.Proofs.Ytcmejocmohohpaa.R
