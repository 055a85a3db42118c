/- The program's functions answer what the models answer: 7. -/
import Derived.Test.YtcmejocmohohpaaMW0
import Derived.Test.YtcmejocmohohpaaMW5
import Derived.Test.YtcmejocmohohpaaMW6
set_option maxRecDepth 100000
set_option linter.unusedVariables false
set_option linter.unusedSimpArgs false
noncomputable section
namespace Go.Proofs.Ytcmejocmohohpaa.R
open Go Nat
/-! funicular/funicularref08.sums -/
/-! funicular/funicularref08.two -/
/-! funicular/funicularref08.fold -/
/-! funicular/funicularref08.Fold -/
/-! funicular/funicularref08.asks -/
noncomputable abbrev qf_35 (r : Bool) : Ex → St → Prop := FinQ 0 [.tmp 4] (.bool r) [] 0
theorem w_m_ref08_asks_l1_B {x0 : TExpr} {name : ByteArray} {r : Bool} {rec_m_ref08_asks : TExpr → ByteArray → Option Bool} (hrec_m_ref08_asks : ∀ {x0 : TExpr} {name : ByteArray} {r : Bool}, rec_m_ref08_asks x0 name = some r → Spec Pg 35 [.agg [.int .i64 x0.Kind, .int .i64 x0.N, .str x0.Name, sl TExpr.c x0.Kids], .str name] [] 0 (.bool r) [] 0) {rec_m_ref08_asks_l1 : Int → Option Bool} (hrec_m_ref08_asks_l1 : ∀ {i : Int}, rec_m_ref08_asks_l1 i = some r → LWp Pg 29 0 i35_L0 ⟨[(0, .bad), (1, .str name), (2, .ptr 0 0), (4, .bad), (5, .int .i64 i), (14, .bad), (19, .bad), (28, .bad)], [], [(0, .box [.int .i64 x0.Kind, .int .i64 x0.N, .str x0.Name, sl TExpr.c x0.Kids])], 1⟩ (blockQ 0 (seqQ Pg 29 0 (.seq (.reg none i35_R8) .ret) (qf_35 r)))) {i : Int} (h : m_ref08_asks_l1_B rec_m_ref08_asks x0 name rec_m_ref08_asks_l1 i = some r) : LWp Pg 29 0 i35_L0 ⟨[(0, .bad), (1, .str name), (2, .ptr 0 0), (4, .bad), (5, .int .i64 i), (14, .bad), (19, .bad), (28, .bad)], [], [(0, .box [.int .i64 x0.Kind, .int .i64 x0.N, .str x0.Name, sl TExpr.c x0.Kids])], 1⟩ (blockQ 0 (seqQ Pg 29 0 (.seq (.reg none i35_R8) .ret) (qf_35 r))) := by
  unfold m_ref08_asks_l1_B at h
  refine LWp.stepC i35_L0.eq_1 ?_
  refine Wp.seq (Wp.seq (regP (seqN ?_)))
  replace h := ifS h; rcases h with ⟨g3, h⟩ | ⟨g3, h⟩
  · refine condTP (Wp.skip (seqN (Wp.seq (Wp.block (Wp.seq (Wp.reg ?_))))))
    replace h := bndS h; obtain ⟨e, g4, h⟩ := h
    replace h := bndS h; obtain ⟨r0, g5, h⟩ := h
    refine lastT (tab_cons (hrec_m_ref08_asks g5) (tab_nil _)) (seqN ?_)
    replace h := ifS h; rcases h with ⟨g6, h⟩ | ⟨g6, h⟩
    · replace h := retS h; subst h
      refine condTP (Wp.seq ?_)
      refine regP (seqN (Wp.ret (blockR (seqR (loopR (blockR (seqR ?_)))))))
      exact finP
    · refine condFP (Wp.skip (blockN (seqN ?_)))
      refine regP (loopN ?_)
      exact jumpL [.kill [19, 28]] (hrec_m_ref08_asks_l1 h)
  · replace h := retS h; subst h
    refine condFP (Wp.out (seqO (loopO (blockO (seqN (Wp.seq ?_))))))
    refine regP (seqN (Wp.ret ?_))
    exact finP
theorem w_m_ref08_asks_l1 {x0 : TExpr} {name : ByteArray} {r : Bool} {rec_m_ref08_asks : TExpr → ByteArray → Option Bool} (hrec_m_ref08_asks : ∀ {x0 : TExpr} {name : ByteArray} {r : Bool}, rec_m_ref08_asks x0 name = some r → Spec Pg 35 [.agg [.int .i64 x0.Kind, .int .i64 x0.N, .str x0.Name, sl TExpr.c x0.Kids], .str name] [] 0 (.bool r) [] 0) : ∀ (n : Nat) {i : Int}, m_ref08_asks_l1 rec_m_ref08_asks x0 name n i = some r → LWp Pg 29 0 i35_L0 ⟨[(0, .bad), (1, .str name), (2, .ptr 0 0), (4, .bad), (5, .int .i64 i), (14, .bad), (19, .bad), (28, .bad)], [], [(0, .box [.int .i64 x0.Kind, .int .i64 x0.N, .str x0.Name, sl TExpr.c x0.Kids])], 1⟩ (blockQ 0 (seqQ Pg 29 0 (.seq (.reg none i35_R8) .ret) (qf_35 r))) := by
  intro n
  induction n with
  | zero => intro i h; unfold m_ref08_asks_l1 at h; cases h
  | succ n ih => intro i h; unfold m_ref08_asks_l1 at h; exact w_m_ref08_asks_l1_B hrec_m_ref08_asks ih h
theorem w_m_ref08_asks_k1 {x0 : TExpr} {name : ByteArray} {v14 : Bool} {r : Bool} {rec_m_ref08_asks : TExpr → ByteArray → Option Bool} (hrec_m_ref08_asks : ∀ {x0 : TExpr} {name : ByteArray} {r : Bool}, rec_m_ref08_asks x0 name = some r → Spec Pg 35 [.agg [.int .i64 x0.Kind, .int .i64 x0.N, .str x0.Name, sl TExpr.c x0.Kids], .str name] [] 0 (.bool r) [] 0) (h : m_ref08_asks_k1 rec_m_ref08_asks x0 name v14 = some r) : Wp Pg 29 0 (.cond (.t 14) (.seq (.reg none i35_R2) .ret) .skip) ⟨[(0, .bad), (1, .str name), (2, .ptr 0 0), (4, .bad), (5, .bad), (14, .bool v14), (19, .bad), (28, .bad)], [], [(0, .box [.int .i64 x0.Kind, .int .i64 x0.N, .str x0.Name, sl TExpr.c x0.Kids])], 1⟩ (seqQ Pg 29 0 (.seq (.seq (.reg none i35_R3) (.block 0 (.loop i35_L0))) (.seq (.reg none i35_R8) .ret)) (qf_35 r)) := by
  unfold m_ref08_asks_k1 at h
  replace h := ifS h; rcases h with ⟨g2, h⟩ | ⟨g2, h⟩
  · replace h := retS h; subst h
    refine condTP (Wp.seq ?_)
    refine regP (seqN (Wp.ret (seqR ?_)))
    exact finP
  · refine condFP (Wp.skip (seqN (Wp.seq (Wp.seq ?_))))
    refine regP (seqN (Wp.block (Wp.loop ?_)))
    exact jumpL [.kill [14]] (w_m_ref08_asks_l1 hrec_m_ref08_asks _ h)
theorem w_m_ref08_asks_B {x0 : TExpr} {name : ByteArray} {r : Bool} {rec_m_ref08_asks : TExpr → ByteArray → Option Bool} (hrec_m_ref08_asks : ∀ {x0 : TExpr} {name : ByteArray} {r : Bool}, rec_m_ref08_asks x0 name = some r → Spec Pg 35 [.agg [.int .i64 x0.Kind, .int .i64 x0.N, .str x0.Name, sl TExpr.c x0.Kids], .str name] [] 0 (.bool r) [] 0) (h : m_ref08_asks_B rec_m_ref08_asks x0 name = some r) : Spec Pg 35 [.agg [.int .i64 x0.Kind, .int .i64 x0.N, .str x0.Name, sl TExpr.c x0.Kids], .str name] [] 0 (.bool r) [] 0 := by
  refine Spec.intro Go.Proofs.Try.func35 i35_ok (le_of_ble rfl) ?_
  show Wp Pg 29 0 i35_B ⟨argEnv [.agg [.int .i64 x0.Kind, .int .i64 x0.N, .str x0.Name, sl TExpr.c x0.Kids], .str name] i35_V, [], [], 0⟩ (qf_35 r)
  unfold m_ref08_asks_B at h
  unfold i35_B
  refine weakP [] ?_
  refine Wp.seq (regP (seqN (Wp.seq (Wp.seq ?_))))
  replace h := ifS h; rcases h with ⟨g1, h⟩ | ⟨g1, h⟩
  · refine regP (seqN ?_)
    exact jumpK [.kill [0, 4, 5, 19, 28]] (w_m_ref08_asks_k1 hrec_m_ref08_asks h)
  · refine regP (seqN ?_)
    exact jumpK [.kill [0, 4, 5, 19, 28]] (w_m_ref08_asks_k1 hrec_m_ref08_asks h)
theorem w_m_ref08_asks : ∀ (n : Nat) {x0 : TExpr} {name : ByteArray} {r : Bool}, m_ref08_asks n x0 name = some r → Spec Pg 35 [.agg [.int .i64 x0.Kind, .int .i64 x0.N, .str x0.Name, sl TExpr.c x0.Kids], .str name] [] 0 (.bool r) [] 0 := by
  intro n
  induction n with
  | zero => intro x0 name r h; unfold m_ref08_asks at h; cases h
  | succ n ih => intro x0 name r h; unfold m_ref08_asks at h; exact w_m_ref08_asks_B ih h
/-! funicular/funicularref08.Asks -/
noncomputable abbrev qf_18 (r : Bool) : Ex → St → Prop := FinQ 0 [.tmp 4] (.bool r) [] 0
theorem w_m_ref08_Asks {x0 : TExpr} {name : ByteArray} {r : Bool}   (h : m_ref08_Asks x0 name = some r) : Spec Pg 18 [.agg [.int .i64 x0.Kind, .int .i64 x0.N, .str x0.Name, sl TExpr.c x0.Kids], .str name] [] 0 (.bool r) [] 0 := by
  refine Spec.intro Go.Proofs.Try.func18 i18_ok (le_of_ble rfl) ?_
  show Wp Pg 8 0 i18_B ⟨argEnv [.agg [.int .i64 x0.Kind, .int .i64 x0.N, .str x0.Name, sl TExpr.c x0.Kids], .str name] i18_V, [], [], 0⟩ (qf_18 r)
  unfold m_ref08_Asks at h
  unfold i18_B
  refine weakP [] ?_
  refine Wp.seq (regP (seqN (Wp.seq (Wp.reg ?_))))
  replace h := bndS h; obtain ⟨r0, g1, h⟩ := h
  replace h := retS h; subst h
  refine chunkT 3 (tab_cons (w_m_ref08_asks _ g1) (tab_nil _)) ?_
  refine lastT (tab_nil _) (seqN (Wp.ret ?_))
  exact finP
end Go.Proofs.Ytcmejocmohohpaa.R
