/- The program's functions answer what the models answer: 4. -/
import Derived.Test.YtcmejocmohohpaaMW0
import Derived.Test.YtcmejocmohohpaaMW2
import Derived.Test.YtcmejocmohohpaaMW3
set_option maxRecDepth 100000
set_option linter.unusedVariables false
set_option linter.unusedSimpArgs false
noncomputable section
namespace Go.Proofs.Ytcmejocmohohpaa.R
open Go Nat
/-! funicular/vars.Check -/
noncomputable abbrev qf_27 (r : Int) : Ex → St → Prop := FinQ 0 [.tmp 2] (.int .i64 r) [] 0
theorem w_m_vars_Check_k2 {v : TVars} {v21 : Int} {v48 : Bool} {r : Int} {rec_m_vars_Check_l1 : Int → Option Int} (hrec_m_vars_Check_l1 : ∀ {v21 : Int}, rec_m_vars_Check_l1 v21 = some r → LWp Pg 50 0 i27_L0 ⟨[(0, .bad), (1, .ptr 0 0), (2, .bad), (3, .bad), (4, .bad), (5, .bad), (13, .bad), (19, sl cs v.Names), (20, .int .i64 (v.Names.length : Int)), (21, .int .i64 v21), (22, .bad), (36, .bad), (48, .bad)], [], [(0, .box [sl cs v.Names, sl (ci .i64) v.Vals])], 1⟩ (blockQ 1 (seqQ Pg 50 0 (.seq (.reg none i27_R13) .ret) (qf_27 r)))) (h : m_vars_Check_k2 rec_m_vars_Check_l1 v21 v48 = some r) : Wp Pg 50 0 (.cond (.t 48) (.seq (.reg none i27_R11) .ret) .skip) ⟨[(0, .bad), (1, .ptr 0 0), (2, .bad), (3, .bad), (4, .bad), (5, .bad), (13, .bad), (19, sl cs v.Names), (20, .int .i64 (v.Names.length : Int)), (21, .int .i64 v21), (22, .bad), (36, .bad), (48, .bool v48)], [], [(0, .box [sl cs v.Names, sl (ci .i64) v.Vals])], 1⟩ (blockQ 2 (seqQ Pg 50 0 (.reg none i27_R12) (loopQ Pg 50 0 i27_L0 (blockQ 1 (seqQ Pg 50 0 (.seq (.reg none i27_R13) .ret) (qf_27 r)))))) := by
  unfold m_vars_Check_k2 at h
  replace h := ifS h; rcases h with ⟨g11, h⟩ | ⟨g11, h⟩
  · replace h := retS h; subst h
    refine condTP (Wp.seq ?_)
    refine regP (seqN (Wp.ret (blockR (seqR (loopR (blockR (seqR ?_)))))))
    exact finP
  · refine condFP (Wp.skip (blockN (seqN ?_)))
    refine regP (loopN ?_)
    exact jumpL [.kill [48]] (hrec_m_vars_Check_l1 h)
theorem w_m_vars_Check_k1 {v : TVars} {v21 : Int} {e : ByteArray} {v36 : Bool} {r : Int} {rec_m_vars_Check_l1 : Int → Option Int} (hrec_m_vars_Check_l1 : ∀ {v21 : Int}, rec_m_vars_Check_l1 v21 = some r → LWp Pg 50 0 i27_L0 ⟨[(0, .bad), (1, .ptr 0 0), (2, .bad), (3, .bad), (4, .bad), (5, .bad), (13, .bad), (19, sl cs v.Names), (20, .int .i64 (v.Names.length : Int)), (21, .int .i64 v21), (22, .bad), (36, .bad), (48, .bad)], [], [(0, .box [sl cs v.Names, sl (ci .i64) v.Vals])], 1⟩ (blockQ 1 (seqQ Pg 50 0 (.seq (.reg none i27_R13) .ret) (qf_27 r)))) (h : m_vars_Check_k1 rec_m_vars_Check_l1 v v21 e v36 = some r) : Wp Pg 50 0 (.cond (.t 36) (.seq (.reg none i27_R9) .ret) .skip) ⟨[(0, .bad), (1, .ptr 0 0), (2, .bad), (3, .int .i64 v21), (4, .str e), (5, .bad), (13, .bad), (19, sl cs v.Names), (20, .int .i64 (v.Names.length : Int)), (21, .int .i64 v21), (22, .bad), (36, .bool v36), (48, .bad)], [], [(0, .box [sl cs v.Names, sl (ci .i64) v.Vals])], 1⟩ (seqQ Pg 50 0 (.seq (.reg none i27_R10) (.cond (.t 48) (.seq (.reg none i27_R11) .ret) .skip)) (blockQ 2 (seqQ Pg 50 0 (.reg none i27_R12) (loopQ Pg 50 0 i27_L0 (blockQ 1 (seqQ Pg 50 0 (.seq (.reg none i27_R13) .ret) (qf_27 r))))))) := by
  unfold m_vars_Check_k1 at h
  replace h := ifS h; rcases h with ⟨g8, h⟩ | ⟨g8, h⟩
  · replace h := retS h; subst h
    refine condTP (Wp.seq ?_)
    refine regP (seqN (Wp.ret (seqR (blockR (seqR (loopR (blockR (seqR ?_))))))))
    exact finP
  · refine condFP (Wp.skip (seqN (Wp.seq ?_)))
    replace h := ifS h; rcases h with ⟨g9, h⟩ | ⟨g9, h⟩
    · replace h := bndS h; obtain ⟨e_1, g10, h⟩ := h
      refine regP (seqN ?_)
      exact jumpK [.kill [3, 4, 36]] (w_m_vars_Check_k2 (v := v) hrec_m_vars_Check_l1 h)
    · refine regP (seqN ?_)
      exact jumpK [.kill [3, 4, 36]] (w_m_vars_Check_k2 (v := v) hrec_m_vars_Check_l1 h)
theorem w_m_vars_Check_l1_B {v : TVars} {r : Int}   {rec_m_vars_Check_l1 : Int → Option Int} (hrec_m_vars_Check_l1 : ∀ {v21 : Int}, rec_m_vars_Check_l1 v21 = some r → LWp Pg 50 0 i27_L0 ⟨[(0, .bad), (1, .ptr 0 0), (2, .bad), (3, .bad), (4, .bad), (5, .bad), (13, .bad), (19, sl cs v.Names), (20, .int .i64 (v.Names.length : Int)), (21, .int .i64 v21), (22, .bad), (36, .bad), (48, .bad)], [], [(0, .box [sl cs v.Names, sl (ci .i64) v.Vals])], 1⟩ (blockQ 1 (seqQ Pg 50 0 (.seq (.reg none i27_R13) .ret) (qf_27 r)))) {v21 : Int} (h : m_vars_Check_l1_B  v rec_m_vars_Check_l1 v21 = some r) : LWp Pg 50 0 i27_L0 ⟨[(0, .bad), (1, .ptr 0 0), (2, .bad), (3, .bad), (4, .bad), (5, .bad), (13, .bad), (19, sl cs v.Names), (20, .int .i64 (v.Names.length : Int)), (21, .int .i64 v21), (22, .bad), (36, .bad), (48, .bad)], [], [(0, .box [sl cs v.Names, sl (ci .i64) v.Vals])], 1⟩ (blockQ 1 (seqQ Pg 50 0 (.seq (.reg none i27_R13) .ret) (qf_27 r))) := by
  unfold m_vars_Check_l1_B at h
  refine LWp.stepC i27_L0.eq_1 ?_
  refine Wp.seq (regP (seqN (Wp.seq ?_)))
  replace h := ifS h; rcases h with ⟨g3, h⟩ | ⟨g3, h⟩
  · refine condTP (Wp.skip (seqN (Wp.seq (Wp.block (Wp.seq ?_)))))
    replace h := bndS h; obtain ⟨e, g4, h⟩ := h
    refine regP (seqN (Wp.seq (Wp.seq (Wp.reg ?_))))
    replace h := bndS h; obtain ⟨r0, g5, h⟩ := h
    refine chunkT 2 (tab_cons (w_m_pack_Name g5) (tab_nil _)) ?_
    replace h := ifS h; rcases h with ⟨g6, h⟩ | ⟨g6, h⟩
    · replace h := ifS h; rcases h with ⟨g7, h⟩ | ⟨g7, h⟩
      · refine lastT (tab_nil _) (seqN ?_)
        exact jumpK [.kill [22]] (w_m_vars_Check_k1 hrec_m_vars_Check_l1 h)
      · refine lastT (tab_nil _) (seqN ?_)
        exact jumpK [.kill [22]] (w_m_vars_Check_k1 hrec_m_vars_Check_l1 h)
    · refine lastT (tab_nil _) (seqN ?_)
      exact jumpK [.kill [22]] (w_m_vars_Check_k1 hrec_m_vars_Check_l1 h)
  · replace h := retS h; subst h
    refine condFP (Wp.out (seqO (loopO (blockO (seqN (Wp.seq ?_))))))
    refine regP (seqN (Wp.ret ?_))
    exact finP
theorem w_m_vars_Check_l1 {v : TVars} {r : Int}   : ∀ (n : Nat) {v21 : Int}, m_vars_Check_l1  v n v21 = some r → LWp Pg 50 0 i27_L0 ⟨[(0, .bad), (1, .ptr 0 0), (2, .bad), (3, .bad), (4, .bad), (5, .bad), (13, .bad), (19, sl cs v.Names), (20, .int .i64 (v.Names.length : Int)), (21, .int .i64 v21), (22, .bad), (36, .bad), (48, .bad)], [], [(0, .box [sl cs v.Names, sl (ci .i64) v.Vals])], 1⟩ (blockQ 1 (seqQ Pg 50 0 (.seq (.reg none i27_R13) .ret) (qf_27 r))) := by
  intro n
  induction n with
  | zero => intro v21 h; unfold m_vars_Check_l1 at h; cases h
  | succ n ih => intro v21 h; unfold m_vars_Check_l1 at h; exact w_m_vars_Check_l1_B  ih h
theorem w_m_vars_Check {v : TVars} {r : Int}   (h : m_vars_Check v = some r) : Spec Pg 27 [.agg [sl cs v.Names, sl (ci .i64) v.Vals]] [] 0 (.int .i64 r) [] 0 := by
  refine Spec.intro Go.Proofs.Try.func27 i27_ok (le_of_ble rfl) ?_
  show Wp Pg 50 0 i27_B ⟨argEnv [.agg [sl cs v.Names, sl (ci .i64) v.Vals]] i27_V, [], [], 0⟩ (qf_27 r)
  unfold m_vars_Check at h
  unfold i27_B
  refine weakP [] ?_
  refine Wp.seq (regP (seqN (Wp.seq (Wp.block (Wp.seq ?_)))))
  refine regP (seqN ?_)
  replace h := ifS h; rcases h with ⟨g1, h⟩ | ⟨g1, h⟩
  · replace h := retS h; subst h
    refine condTP (Wp.seq ?_)
    refine regP (seqN (Wp.ret (blockR (seqR ?_))))
    exact finP
  · refine condFP (Wp.seq ?_)
    refine regP (seqN ?_)
    replace h := ifS h; rcases h with ⟨g2, h⟩ | ⟨g2, h⟩
    · replace h := retS h; subst h
      refine condTP (Wp.seq ?_)
      refine regP (seqN (Wp.ret (blockR (seqR ?_))))
      exact finP
    · refine condFP (Wp.skip (blockN (seqN (Wp.seq (Wp.seq ?_)))))
      refine regP (seqN (Wp.block (Wp.loop ?_)))
      exact jumpL [.kill [0, 2, 3, 4, 5, 13, 22, 36, 48]] (w_m_vars_Check_l1 _ h)
/-! funicular/eval.Of -/
noncomputable abbrev qf_11 (r : (TValue × Int)) : Ex → St → Prop := FinQ 0 [.cell 4 true 2, .tmp 5] (.tup [.agg [.bool r.1.Bool, .int .i64 r.1.N], .int .i64 r.2]) [] 0
theorem w_m_eval_Of {x0 : TExpr} {v : TVars} {r : (TValue × Int)}   (h : m_eval_Of x0 v = some r) : Spec Pg 11 [.agg [.int .i64 x0.Kind, .int .i64 x0.N, .str x0.Name, sl TExpr.c x0.Kids], .agg [sl cs v.Names, sl (ci .i64) v.Vals]] [] 0 (.tup [.agg [.bool r.1.Bool, .int .i64 r.1.N], .int .i64 r.2]) [] 0 := by
  refine Spec.intro Go.Proofs.Try.func11 i11_ok (le_of_ble rfl) ?_
  show Wp Pg 29 0 i11_B ⟨argEnv [.agg [.int .i64 x0.Kind, .int .i64 x0.N, .str x0.Name, sl TExpr.c x0.Kids], .agg [sl cs v.Names, sl (ci .i64) v.Vals]] i11_V, [], [], 0⟩ (qf_11 r)
  unfold m_eval_Of at h
  unfold i11_B
  refine weakP [] ?_
  refine Wp.seq (regP (seqN (Wp.seq (Wp.seq (Wp.reg ?_)))))
  replace h := bndS h; obtain ⟨r0, g1, h⟩ := h
  refine chunkT 2 (tab_cons (w_m_types_Truth g1) (tab_nil _)) ?_
  refine lastT (tab_nil _) (seqN (Wp.seq ?_))
  refine regP (seqN ?_)
  replace h := ifS h; rcases h with ⟨g2, h⟩ | ⟨g2, h⟩
  · replace h := retS h; subst h
    refine condTP (Wp.seq ?_)
    refine regP (seqN (Wp.ret (seqR ?_)))
    exact finP
  · refine condFP (Wp.skip (seqN (Wp.seq (Wp.seq (Wp.reg ?_)))))
    replace h := bndS h; obtain ⟨r0_1, g3, h⟩ := h
    refine chunkT 2 (tab_cons (w_m_vars_Check g3) (tab_nil _)) ?_
    refine lastT (tab_nil _) (seqN (Wp.seq ?_))
    refine regP (seqN ?_)
    replace h := ifS h; rcases h with ⟨g4, h⟩ | ⟨g4, h⟩
    · replace h := retS h; subst h
      refine condTP (Wp.seq ?_)
      refine regP (seqN (Wp.ret (seqR ?_)))
      exact finP
    · refine condFP (Wp.skip (seqN (Wp.seq (Wp.reg ?_))))
      replace h := bndS h; obtain ⟨r0_2, g5, h⟩ := h
      replace h := retS h; subst h
      refine chunkT 3 (tab_cons (w_m_eval_of _ g5) (tab_nil _)) ?_
      refine lastT (tab_nil _) (seqN (Wp.ret ?_))
      exact finP
/-! funicular/funicularref02.Name -/
noncomputable abbrev qf_30 (r : Bool) : Ex → St → Prop := FinQ 0 [.tmp 2] (.bool r) [] 0
theorem w_m_ref02_Name_k4 {s : ByteArray} {i : Int} {v50 : Bool} {r : Bool} {rec_m_ref02_Name_l1 : Int → Option Bool} (hrec_m_ref02_Name_l1 : ∀ {i : Int}, rec_m_ref02_Name_l1 i = some r → LWp Pg 51 0 i30_L0 ⟨[(0, .str s), (2, .bad), (3, .int .i64 i), (4, .bad), (5, .bad), (18, .bad), (22, .bad), (50, .bad)], [], [], 0⟩ (blockQ 0 (seqQ Pg 51 0 (.seq (.reg none i30_R10) .ret) (qf_30 r)))) (h : m_ref02_Name_k4 rec_m_ref02_Name_l1 i v50 = some r) : Wp Pg 51 0 (.cond (.t 50) (.seq (.reg none i30_R8) .ret) .skip) ⟨[(0, .str s), (2, .bad), (3, .int .i64 i), (4, .bad), (5, .bad), (18, .bad), (22, .bad), (50, .bool v50)], [], [], 0⟩ (blockQ 1 (seqQ Pg 51 0 (.reg none i30_R9) (loopQ Pg 51 0 i30_L0 (blockQ 0 (seqQ Pg 51 0 (.seq (.reg none i30_R10) .ret) (qf_30 r)))))) := by
  unfold m_ref02_Name_k4 at h
  replace h := ifS h; rcases h with ⟨g11, h⟩ | ⟨g11, h⟩
  · replace h := retS h; subst h
    refine condTP (Wp.seq ?_)
    refine regP (seqN (Wp.ret (blockR (seqR (loopR (blockR (seqR ?_)))))))
    exact finP
  · refine condFP (Wp.skip (blockN (seqN ?_)))
    refine regP (loopN ?_)
    exact jumpL [.kill [50]] (hrec_m_ref02_Name_l1 h)
theorem w_m_ref02_Name_k3 {s : ByteArray} {i : Int} {digit : Bool} {letter : Bool} {r : Bool} {rec_m_ref02_Name_l1 : Int → Option Bool} (hrec_m_ref02_Name_l1 : ∀ {i : Int}, rec_m_ref02_Name_l1 i = some r → LWp Pg 51 0 i30_L0 ⟨[(0, .str s), (2, .bad), (3, .int .i64 i), (4, .bad), (5, .bad), (18, .bad), (22, .bad), (50, .bad)], [], [], 0⟩ (blockQ 0 (seqQ Pg 51 0 (.seq (.reg none i30_R10) .ret) (qf_30 r)))) (h : m_ref02_Name_k3 rec_m_ref02_Name_l1 i digit letter = some r) : Wp Pg 51 0 (.seq (.reg none i30_R7) (.cond (.t 50) (.seq (.reg none i30_R8) .ret) .skip)) ⟨[(0, .str s), (2, .bad), (3, .int .i64 i), (4, .bool digit), (5, .bool letter), (18, .bad), (22, .bad), (50, .bad)], [], [], 0⟩ (blockQ 1 (seqQ Pg 51 0 (.reg none i30_R9) (loopQ Pg 51 0 i30_L0 (blockQ 0 (seqQ Pg 51 0 (.seq (.reg none i30_R10) .ret) (qf_30 r)))))) := by
  unfold m_ref02_Name_k3 at h
  refine Wp.seq ?_
  replace h := ifS h; rcases h with ⟨g10, h⟩ | ⟨g10, h⟩
  · refine regP (seqN ?_)
    exact jumpK [.kill [4, 5]] (w_m_ref02_Name_k4 (s := s) hrec_m_ref02_Name_l1 h)
  · refine regP (seqN ?_)
    exact jumpK [.kill [4, 5]] (w_m_ref02_Name_k4 (s := s) hrec_m_ref02_Name_l1 h)
theorem w_m_ref02_Name_k2 {s : ByteArray} {i : Int} {digit : Bool} {r : Bool} {rec_m_ref02_Name_l1 : Int → Option Bool} (hrec_m_ref02_Name_l1 : ∀ {i : Int}, rec_m_ref02_Name_l1 i = some r → LWp Pg 51 0 i30_L0 ⟨[(0, .str s), (2, .bad), (3, .int .i64 i), (4, .bad), (5, .bad), (18, .bad), (22, .bad), (50, .bad)], [], [], 0⟩ (blockQ 0 (seqQ Pg 51 0 (.seq (.reg none i30_R10) .ret) (qf_30 r)))) (h : m_ref02_Name_k2 rec_m_ref02_Name_l1 s i digit = some r) : Wp Pg 51 0 (.seq (.reg none i30_R6) (.seq (.reg none i30_R7) (.cond (.t 50) (.seq (.reg none i30_R8) .ret) .skip))) ⟨[(0, .str s), (2, .bad), (3, .int .i64 i), (4, .bool digit), (5, .bad), (18, .bad), (22, .bad), (50, .bad)], [], [], 0⟩ (blockQ 1 (seqQ Pg 51 0 (.reg none i30_R9) (loopQ Pg 51 0 i30_L0 (blockQ 0 (seqQ Pg 51 0 (.seq (.reg none i30_R10) .ret) (qf_30 r)))))) := by
  unfold m_ref02_Name_k2 at h
  refine Wp.seq ?_
  replace h := bndS h; obtain ⟨c_2, g8, h⟩ := h
  replace h := ifS h; rcases h with ⟨g9, h⟩ | ⟨g9, h⟩
  · refine regP (seqN ?_)
    exact jumpK [] (w_m_ref02_Name_k3 (s := s) hrec_m_ref02_Name_l1 h)
  · refine regP (seqN ?_)
    exact jumpK [] (w_m_ref02_Name_k3 (s := s) hrec_m_ref02_Name_l1 h)
theorem w_m_ref02_Name_l1_B {s : ByteArray} {r : Bool}   {rec_m_ref02_Name_l1 : Int → Option Bool} (hrec_m_ref02_Name_l1 : ∀ {i : Int}, rec_m_ref02_Name_l1 i = some r → LWp Pg 51 0 i30_L0 ⟨[(0, .str s), (2, .bad), (3, .int .i64 i), (4, .bad), (5, .bad), (18, .bad), (22, .bad), (50, .bad)], [], [], 0⟩ (blockQ 0 (seqQ Pg 51 0 (.seq (.reg none i30_R10) .ret) (qf_30 r)))) {i : Int} (h : m_ref02_Name_l1_B  s rec_m_ref02_Name_l1 i = some r) : LWp Pg 51 0 i30_L0 ⟨[(0, .str s), (2, .bad), (3, .int .i64 i), (4, .bad), (5, .bad), (18, .bad), (22, .bad), (50, .bad)], [], [], 0⟩ (blockQ 0 (seqQ Pg 51 0 (.seq (.reg none i30_R10) .ret) (qf_30 r))) := by
  unfold m_ref02_Name_l1_B at h
  refine LWp.stepC i30_L0.eq_1 ?_
  refine Wp.seq (Wp.seq (regP (seqN ?_)))
  replace h := ifS h; rcases h with ⟨g5, h⟩ | ⟨g5, h⟩
  · refine condTP (Wp.skip (seqN (Wp.seq (Wp.block (Wp.seq ?_)))))
    replace h := bndS h; obtain ⟨c_1, g6, h⟩ := h
    replace h := ifS h; rcases h with ⟨g7, h⟩ | ⟨g7, h⟩
    · refine regP (seqN ?_)
      exact jumpK [.kill [22]] (w_m_ref02_Name_k2 hrec_m_ref02_Name_l1 h)
    · refine regP (seqN ?_)
      exact jumpK [.kill [22]] (w_m_ref02_Name_k2 hrec_m_ref02_Name_l1 h)
  · replace h := retS h; subst h
    refine condFP (Wp.out (seqO (loopO (blockO (seqN (Wp.seq ?_))))))
    refine regP (seqN (Wp.ret ?_))
    exact finP
theorem w_m_ref02_Name_l1 {s : ByteArray} {r : Bool}   : ∀ (n : Nat) {i : Int}, m_ref02_Name_l1  s n i = some r → LWp Pg 51 0 i30_L0 ⟨[(0, .str s), (2, .bad), (3, .int .i64 i), (4, .bad), (5, .bad), (18, .bad), (22, .bad), (50, .bad)], [], [], 0⟩ (blockQ 0 (seqQ Pg 51 0 (.seq (.reg none i30_R10) .ret) (qf_30 r))) := by
  intro n
  induction n with
  | zero => intro i h; unfold m_ref02_Name_l1 at h; cases h
  | succ n ih => intro i h; unfold m_ref02_Name_l1 at h; exact w_m_ref02_Name_l1_B  ih h
theorem w_m_ref02_Name_k1 {s : ByteArray} {v18 : Bool} {r : Bool}   (h : m_ref02_Name_k1 s v18 = some r) : Wp Pg 51 0 (.cond (.t 18) (.seq (.reg none i30_R2) .ret) .skip) ⟨[(0, .str s), (2, .bad), (3, .bad), (4, .bad), (5, .bad), (18, .bool v18), (22, .bad), (50, .bad)], [], [], 0⟩ (seqQ Pg 51 0 (.seq (.seq (.reg none i30_R3) (.block 0 (.loop i30_L0))) (.seq (.reg none i30_R10) .ret)) (qf_30 r)) := by
  unfold m_ref02_Name_k1 at h
  replace h := ifS h; rcases h with ⟨g4, h⟩ | ⟨g4, h⟩
  · replace h := retS h; subst h
    refine condTP (Wp.seq ?_)
    refine regP (seqN (Wp.ret (seqR ?_)))
    exact finP
  · refine condFP (Wp.skip (seqN (Wp.seq (Wp.seq ?_))))
    refine regP (seqN (Wp.block (Wp.loop ?_)))
    exact jumpL [.kill [18]] (w_m_ref02_Name_l1 _ h)
theorem w_m_ref02_Name {s : ByteArray} {r : Bool}   (h : m_ref02_Name s = some r) : Spec Pg 30 [.str s] [] 0 (.bool r) [] 0 := by
  refine Spec.intro Go.Proofs.Try.func30 i30_ok (le_of_ble rfl) ?_
  show Wp Pg 51 0 i30_B ⟨argEnv [.str s] i30_V, [], [], 0⟩ (qf_30 r)
  unfold m_ref02_Name at h
  unfold i30_B
  refine weakP [] ?_
  refine Wp.seq (regP (seqN (Wp.seq (Wp.seq ?_))))
  replace h := ifS h; rcases h with ⟨g1, h⟩ | ⟨g1, h⟩
  · refine regP (seqN ?_)
    exact jumpK [.kill [2, 3, 4, 5, 22, 50]] (w_m_ref02_Name_k1 h)
  · replace h := ifS h; rcases h with ⟨g2, h⟩ | ⟨g2, h⟩
    · refine regP (seqN ?_)
      exact jumpK [.kill [2, 3, 4, 5, 22, 50]] (w_m_ref02_Name_k1 h)
    · replace h := bndS h; obtain ⟨c, g3, h⟩ := h
      refine regP (seqN ?_)
      exact jumpK [.kill [2, 3, 4, 5, 22, 50]] (w_m_ref02_Name_k1 h)
/-! funicular/funicularref09.Check -/
noncomputable abbrev qf_15 (r : Int) : Ex → St → Prop := FinQ 0 [.tmp 2] (.int .i64 r) [] 0
theorem w_m_ref09_Check_k1 {v : TVars} {i : Int} {v53 : Bool} {r : Int} {rec_m_ref09_Check_l1 : Int → Option Int} (hrec_m_ref09_Check_l1 : ∀ {i : Int}, rec_m_ref09_Check_l1 i = some r → LWp Pg 54 0 i15_L0 ⟨[(0, .bad), (1, .ptr 0 0), (2, .bad), (3, .int .i64 i), (4, .bad), (11, .bad), (15, .bad), (20, .bad), (53, .bad)], [], [(0, .box [sl cs v.Names, sl (ci .i64) v.Vals])], 1⟩ (blockQ 0 (seqQ Pg 54 0 (.seq (.reg none i15_R11) .ret) (qf_15 r)))) (h : m_ref09_Check_k1 rec_m_ref09_Check_l1 i v53 = some r) : Wp Pg 54 0 (.cond (.t 53) (.seq (.reg none i15_R9) .ret) .skip) ⟨[(0, .bad), (1, .ptr 0 0), (2, .bad), (3, .int .i64 i), (4, .bad), (11, .bad), (15, .bad), (20, .bad), (53, .bool v53)], [], [(0, .box [sl cs v.Names, sl (ci .i64) v.Vals])], 1⟩ (blockQ 1 (seqQ Pg 54 0 (.reg none i15_R10) (loopQ Pg 54 0 i15_L0 (blockQ 0 (seqQ Pg 54 0 (.seq (.reg none i15_R11) .ret) (qf_15 r)))))) := by
  unfold m_ref09_Check_k1 at h
  replace h := ifS h; rcases h with ⟨g11, h⟩ | ⟨g11, h⟩
  · replace h := retS h; subst h
    refine condTP (Wp.seq ?_)
    refine regP (seqN (Wp.ret (blockR (seqR (loopR (blockR (seqR ?_)))))))
    exact finP
  · refine condFP (Wp.skip (blockN (seqN ?_)))
    refine regP (loopN ?_)
    exact jumpL [.kill [53]] (hrec_m_ref09_Check_l1 h)
theorem w_m_ref09_Check_l1_B {v : TVars} {r : Int}   {rec_m_ref09_Check_l1 : Int → Option Int} (hrec_m_ref09_Check_l1 : ∀ {i : Int}, rec_m_ref09_Check_l1 i = some r → LWp Pg 54 0 i15_L0 ⟨[(0, .bad), (1, .ptr 0 0), (2, .bad), (3, .int .i64 i), (4, .bad), (11, .bad), (15, .bad), (20, .bad), (53, .bad)], [], [(0, .box [sl cs v.Names, sl (ci .i64) v.Vals])], 1⟩ (blockQ 0 (seqQ Pg 54 0 (.seq (.reg none i15_R11) .ret) (qf_15 r)))) {i : Int} (h : m_ref09_Check_l1_B  v rec_m_ref09_Check_l1 i = some r) : LWp Pg 54 0 i15_L0 ⟨[(0, .bad), (1, .ptr 0 0), (2, .bad), (3, .int .i64 i), (4, .bad), (11, .bad), (15, .bad), (20, .bad), (53, .bad)], [], [(0, .box [sl cs v.Names, sl (ci .i64) v.Vals])], 1⟩ (blockQ 0 (seqQ Pg 54 0 (.seq (.reg none i15_R11) .ret) (qf_15 r))) := by
  unfold m_ref09_Check_l1_B at h
  refine LWp.stepC i15_L0.eq_1 ?_
  refine Wp.seq (Wp.seq (regP (seqN ?_)))
  replace h := ifS h; rcases h with ⟨g3, h⟩ | ⟨g3, h⟩
  · refine condTP (Wp.skip (seqN (Wp.seq (Wp.block (Wp.seq ?_)))))
    replace h := bndS h; obtain ⟨e, g4, h⟩ := h
    refine regP (seqN (Wp.seq (Wp.reg ?_)))
    replace h := bndS h; obtain ⟨r0, g5, h⟩ := h
    refine chunkT 2 (tab_cons (w_m_ref02_Name g5) (tab_nil _)) ?_
    replace h := ifS h; rcases h with ⟨g6, h⟩ | ⟨g6, h⟩
    · replace h := ifS h; rcases h with ⟨g7, h⟩ | ⟨g7, h⟩
      · refine lastT (tab_nil _) (seqN ?_)
        exact jumpK [.kill [4, 20]] (w_m_ref09_Check_k1 (v := v) hrec_m_ref09_Check_l1 h)
      · replace h := ifS h; rcases h with ⟨g8, h⟩ | ⟨g8, h⟩
        · refine lastT (tab_nil _) (seqN ?_)
          exact jumpK [.kill [4, 20]] (w_m_ref09_Check_k1 (v := v) hrec_m_ref09_Check_l1 h)
        · replace h := ifS h; rcases h with ⟨g9, h⟩ | ⟨g9, h⟩
          · replace h := bndS h; obtain ⟨e_1, g10, h⟩ := h
            refine lastT (tab_nil _) (seqN ?_)
            exact jumpK [.kill [4, 20]] (w_m_ref09_Check_k1 (v := v) hrec_m_ref09_Check_l1 h)
          · refine lastT (tab_nil _) (seqN ?_)
            exact jumpK [.kill [4, 20]] (w_m_ref09_Check_k1 (v := v) hrec_m_ref09_Check_l1 h)
    · refine lastT (tab_nil _) (seqN ?_)
      exact jumpK [.kill [4, 20]] (w_m_ref09_Check_k1 (v := v) hrec_m_ref09_Check_l1 h)
  · replace h := retS h; subst h
    refine condFP (Wp.out (seqO (loopO (blockO (seqN (Wp.seq ?_))))))
    refine regP (seqN (Wp.ret ?_))
    exact finP
theorem w_m_ref09_Check_l1 {v : TVars} {r : Int}   : ∀ (n : Nat) {i : Int}, m_ref09_Check_l1  v n i = some r → LWp Pg 54 0 i15_L0 ⟨[(0, .bad), (1, .ptr 0 0), (2, .bad), (3, .int .i64 i), (4, .bad), (11, .bad), (15, .bad), (20, .bad), (53, .bad)], [], [(0, .box [sl cs v.Names, sl (ci .i64) v.Vals])], 1⟩ (blockQ 0 (seqQ Pg 54 0 (.seq (.reg none i15_R11) .ret) (qf_15 r))) := by
  intro n
  induction n with
  | zero => intro i h; unfold m_ref09_Check_l1 at h; cases h
  | succ n ih => intro i h; unfold m_ref09_Check_l1 at h; exact w_m_ref09_Check_l1_B  ih h
theorem w_m_ref09_Check {v : TVars} {r : Int}   (h : m_ref09_Check v = some r) : Spec Pg 15 [.agg [sl cs v.Names, sl (ci .i64) v.Vals]] [] 0 (.int .i64 r) [] 0 := by
  refine Spec.intro Go.Proofs.Try.func15 i15_ok (le_of_ble rfl) ?_
  show Wp Pg 54 0 i15_B ⟨argEnv [.agg [sl cs v.Names, sl (ci .i64) v.Vals]] i15_V, [], [], 0⟩ (qf_15 r)
  unfold m_ref09_Check at h
  unfold i15_B
  refine weakP [] ?_
  refine Wp.seq (regP (seqN (Wp.seq (Wp.seq ?_))))
  refine regP (seqN ?_)
  replace h := ifS h; rcases h with ⟨g1, h⟩ | ⟨g1, h⟩
  · replace h := retS h; subst h
    refine condTP (Wp.seq ?_)
    refine regP (seqN (Wp.ret (seqR ?_)))
    exact finP
  · refine condFP (Wp.skip (seqN (Wp.seq (Wp.seq ?_))))
    refine regP (seqN ?_)
    replace h := ifS h; rcases h with ⟨g2, h⟩ | ⟨g2, h⟩
    · replace h := retS h; subst h
      refine condTP (Wp.seq ?_)
      refine regP (seqN (Wp.ret (seqR ?_)))
      exact finP
    · refine condFP (Wp.skip (seqN (Wp.seq (Wp.seq ?_))))
      refine regP (seqN (Wp.block (Wp.loop ?_)))
      exact jumpL [.kill [0, 2, 4, 11, 15, 20, 53]] (w_m_ref09_Check_l1 _ h)
/-! funicular/funicularref07.node -/
noncomputable abbrev qf_70 (r : Bool) : Ex → St → Prop := FinQ 0 [.tmp 2] (.bool r) [] 0
theorem w_m_ref07_node_k6 {x0 : TExpr} {v47 : Bool} {r : Bool}   (h : m_ref07_node_k6 x0 v47 = some r) : Wp Pg 67 0 (.cond (.t 47) (.seq (.reg none i70_R9) .ret) .skip) ⟨[(0, .bad), (1, .ptr 0 0), (2, .bad), (3, .bad), (11, .bad), (19, .bad), (34, .bad), (47, .bool v47), (50, .bad)], [], [(0, .box [.int .i64 x0.Kind, .int .i64 x0.N, .str x0.Name, sl TExpr.c x0.Kids])], 1⟩ (seqQ Pg 67 0 (.seq (.seq (.reg none i70_R10) (.cond (.t 50) (.seq (.reg none i70_R11) .ret) .skip)) (.seq (.reg none i70_R12) .ret)) (qf_70 r)) := by
  unfold m_ref07_node_k6 at h
  replace h := ifS h; rcases h with ⟨g10, h⟩ | ⟨g10, h⟩
  · replace h := retS h; subst h
    refine condTP (Wp.seq ?_)
    refine regP (seqN (Wp.ret (seqR ?_)))
    exact finP
  · refine condFP (Wp.skip (seqN (Wp.seq (Wp.seq ?_))))
    refine regP (seqN ?_)
    replace h := ifS h; rcases h with ⟨g11, h⟩ | ⟨g11, h⟩
    · refine condTP (Wp.seq (Wp.reg ?_))
      replace h := bndS h; obtain ⟨r0, g12, h⟩ := h
      refine chunkT 3 (tab_cons (w_m_ref02_Name g12) (tab_nil _)) ?_
      replace h := ifS h; rcases h with ⟨g13, h⟩ | ⟨g13, h⟩
      · replace h := ifS h; rcases h with ⟨g14, h⟩ | ⟨g14, h⟩
        · replace h := retS h; subst h
          refine lastT (tab_nil _) (seqN (Wp.ret (seqR ?_)))
          exact finP
        · replace h := retS h; subst h
          refine lastT (tab_nil _) (seqN (Wp.ret (seqR ?_)))
          exact finP
      · replace h := retS h; subst h
        refine lastT (tab_nil _) (seqN (Wp.ret (seqR ?_)))
        exact finP
    · replace h := retS h; subst h
      refine condFP (Wp.skip (seqN (Wp.seq ?_)))
      refine regP (seqN (Wp.ret ?_))
      exact finP
theorem w_m_ref07_node_k5 {x0 : TExpr} {v34 : Bool} {r : Bool}   (h : m_ref07_node_k5 x0 v34 = some r) : Wp Pg 67 0 (.cond (.t 34) (.seq (.reg none i70_R7) .ret) .skip) ⟨[(0, .bad), (1, .ptr 0 0), (2, .bad), (3, .bad), (11, .bad), (19, .bad), (34, .bool v34), (47, .bad), (50, .bad)], [], [(0, .box [.int .i64 x0.Kind, .int .i64 x0.N, .str x0.Name, sl TExpr.c x0.Kids])], 1⟩ (seqQ Pg 67 0 (.seq (.seq (.reg none i70_R8) (.cond (.t 47) (.seq (.reg none i70_R9) .ret) .skip)) (.seq (.seq (.reg none i70_R10) (.cond (.t 50) (.seq (.reg none i70_R11) .ret) .skip)) (.seq (.reg none i70_R12) .ret))) (qf_70 r)) := by
  unfold m_ref07_node_k5 at h
  replace h := ifS h; rcases h with ⟨g7, h⟩ | ⟨g7, h⟩
  · replace h := retS h; subst h
    refine condTP (Wp.seq ?_)
    refine regP (seqN (Wp.ret (seqR ?_)))
    exact finP
  · refine condFP (Wp.skip (seqN (Wp.seq (Wp.seq ?_))))
    replace h := ifS h; rcases h with ⟨g8, h⟩ | ⟨g8, h⟩
    · refine regP (seqN ?_)
      exact jumpK [.kill [34]] (w_m_ref07_node_k6 h)
    · replace h := ifS h; rcases h with ⟨g9, h⟩ | ⟨g9, h⟩
      · refine regP (seqN ?_)
        exact jumpK [.kill [34]] (w_m_ref07_node_k6 h)
      · refine regP (seqN ?_)
        exact jumpK [.kill [34]] (w_m_ref07_node_k6 h)
theorem w_m_ref07_node_k4 {x0 : TExpr} {kids_1 : Int} {r : Bool}   (h : m_ref07_node_k4 x0 kids_1 = some r) : Wp Pg 67 0 (.seq (.seq (.reg none i70_R6) (.cond (.t 34) (.seq (.reg none i70_R7) .ret) .skip)) (.seq (.seq (.reg none i70_R8) (.cond (.t 47) (.seq (.reg none i70_R9) .ret) .skip)) (.seq (.seq (.reg none i70_R10) (.cond (.t 50) (.seq (.reg none i70_R11) .ret) .skip)) (.seq (.reg none i70_R12) .ret)))) ⟨[(0, .bad), (1, .ptr 0 0), (2, .bad), (3, .int .i64 kids_1), (11, .bad), (19, .bad), (34, .bad), (47, .bad), (50, .bad)], [], [(0, .box [.int .i64 x0.Kind, .int .i64 x0.N, .str x0.Name, sl TExpr.c x0.Kids])], 1⟩ (qf_70 r) := by
  unfold m_ref07_node_k4 at h
  refine Wp.seq (Wp.seq ?_)
  replace h := ifS h; rcases h with ⟨g5, h⟩ | ⟨g5, h⟩
  · refine regP (seqN ?_)
    exact jumpK [.kill [3]] (w_m_ref07_node_k5 h)
  · replace h := ifS h; rcases h with ⟨g6, h⟩ | ⟨g6, h⟩
    · refine regP (seqN ?_)
      exact jumpK [.kill [3]] (w_m_ref07_node_k5 h)
    · refine regP (seqN ?_)
      exact jumpK [.kill [3]] (w_m_ref07_node_k5 h)
theorem w_m_ref07_node_k3 {x0 : TExpr} {kids : Int} {v19 : Bool} {r : Bool}   (h : m_ref07_node_k3 x0 kids v19 = some r) : Wp Pg 67 0 (.cond (.t 19) (.reg none i70_R5) .skip) ⟨[(0, .bad), (1, .ptr 0 0), (2, .bad), (3, .int .i64 kids), (11, .bad), (19, .bool v19), (34, .bad), (47, .bad), (50, .bad)], [], [(0, .box [.int .i64 x0.Kind, .int .i64 x0.N, .str x0.Name, sl TExpr.c x0.Kids])], 1⟩ (seqQ Pg 67 0 (.seq (.seq (.reg none i70_R6) (.cond (.t 34) (.seq (.reg none i70_R7) .ret) .skip)) (.seq (.seq (.reg none i70_R8) (.cond (.t 47) (.seq (.reg none i70_R9) .ret) .skip)) (.seq (.seq (.reg none i70_R10) (.cond (.t 50) (.seq (.reg none i70_R11) .ret) .skip)) (.seq (.reg none i70_R12) .ret)))) (qf_70 r)) := by
  unfold m_ref07_node_k3 at h
  replace h := ifS h; rcases h with ⟨g4, h⟩ | ⟨g4, h⟩
  · refine condTP ?_
    refine regP (seqN ?_)
    exact jumpK [.kill [19]] (w_m_ref07_node_k4 h)
  · refine condFP (Wp.skip (seqN ?_))
    exact jumpK [.kill [19]] (w_m_ref07_node_k4 h)
theorem w_m_ref07_node_k2 {x0 : TExpr} {kids : Int} {r : Bool}   (h : m_ref07_node_k2 x0 kids = some r) : Wp Pg 67 0 (.seq (.seq (.reg none i70_R4) (.cond (.t 19) (.reg none i70_R5) .skip)) (.seq (.seq (.reg none i70_R6) (.cond (.t 34) (.seq (.reg none i70_R7) .ret) .skip)) (.seq (.seq (.reg none i70_R8) (.cond (.t 47) (.seq (.reg none i70_R9) .ret) .skip)) (.seq (.seq (.reg none i70_R10) (.cond (.t 50) (.seq (.reg none i70_R11) .ret) .skip)) (.seq (.reg none i70_R12) .ret))))) ⟨[(0, .bad), (1, .ptr 0 0), (2, .bad), (3, .int .i64 kids), (11, .bad), (19, .bad), (34, .bad), (47, .bad), (50, .bad)], [], [(0, .box [.int .i64 x0.Kind, .int .i64 x0.N, .str x0.Name, sl TExpr.c x0.Kids])], 1⟩ (qf_70 r) := by
  unfold m_ref07_node_k2 at h
  refine Wp.seq (Wp.seq ?_)
  replace h := ifS h; rcases h with ⟨g3, h⟩ | ⟨g3, h⟩
  · refine regP (seqN ?_)
    exact jumpK [] (w_m_ref07_node_k3 h)
  · refine regP (seqN ?_)
    exact jumpK [] (w_m_ref07_node_k3 h)
theorem w_m_ref07_node_k1 {x0 : TExpr} {v11 : Bool} {r : Bool}   (h : m_ref07_node_k1 x0 v11 = some r) : Wp Pg 67 0 (.cond (.t 11) (.reg none i70_R3) .skip) ⟨[(0, .bad), (1, .ptr 0 0), (2, .bad), (3, .int .i64 (2 : Int)), (11, .bool v11), (19, .bad), (34, .bad), (47, .bad), (50, .bad)], [], [(0, .box [.int .i64 x0.Kind, .int .i64 x0.N, .str x0.Name, sl TExpr.c x0.Kids])], 1⟩ (seqQ Pg 67 0 (.seq (.seq (.reg none i70_R4) (.cond (.t 19) (.reg none i70_R5) .skip)) (.seq (.seq (.reg none i70_R6) (.cond (.t 34) (.seq (.reg none i70_R7) .ret) .skip)) (.seq (.seq (.reg none i70_R8) (.cond (.t 47) (.seq (.reg none i70_R9) .ret) .skip)) (.seq (.seq (.reg none i70_R10) (.cond (.t 50) (.seq (.reg none i70_R11) .ret) .skip)) (.seq (.reg none i70_R12) .ret))))) (qf_70 r)) := by
  unfold m_ref07_node_k1 at h
  replace h := ifS h; rcases h with ⟨g2, h⟩ | ⟨g2, h⟩
  · refine condTP ?_
    refine regP (seqN ?_)
    exact jumpK [.kill [11]] (w_m_ref07_node_k2 h)
  · refine condFP (Wp.skip (seqN ?_))
    exact jumpK [.kill [11]] (w_m_ref07_node_k2 h)
theorem w_m_ref07_node {x0 : TExpr} {r : Bool}   (h : m_ref07_node x0 = some r) : Spec Pg 70 [.agg [.int .i64 x0.Kind, .int .i64 x0.N, .str x0.Name, sl TExpr.c x0.Kids]] [] 0 (.bool r) [] 0 := by
  refine Spec.intro Go.Proofs.Try.func70 i70_ok (le_of_ble rfl) ?_
  show Wp Pg 67 0 i70_B ⟨argEnv [.agg [.int .i64 x0.Kind, .int .i64 x0.N, .str x0.Name, sl TExpr.c x0.Kids]] i70_V, [], [], 0⟩ (qf_70 r)
  unfold m_ref07_node at h
  unfold i70_B
  refine weakP [] ?_
  refine Wp.seq (regP (seqN (Wp.seq ?_)))
  refine regP (seqN (Wp.seq (Wp.seq ?_)))
  replace h := ifS h; rcases h with ⟨g1, h⟩ | ⟨g1, h⟩
  · refine regP (seqN ?_)
    exact jumpK [.kill [0, 2, 19, 34, 47, 50]] (w_m_ref07_node_k1 h)
  · refine regP (seqN ?_)
    exact jumpK [.kill [0, 2, 19, 34, 47, 50]] (w_m_ref07_node_k1 h)
/-! funicular/funicularref07.check -/
noncomputable abbrev qf_52 (r : Int) : Ex → St → Prop := FinQ 0 [.tmp 4] (.int .i64 r) [] 0
theorem w_m_ref07_check_l1_B {x0 : TExpr} {deep : Int} {r : Int} {rec_m_ref07_check : TExpr → Int → Option Int} (hrec_m_ref07_check : ∀ {x0 : TExpr} {deep : Int} {r : Int}, rec_m_ref07_check x0 deep = some r → Spec Pg 52 [.agg [.int .i64 x0.Kind, .int .i64 x0.N, .str x0.Name, sl TExpr.c x0.Kids], .int .i64 deep] [] 0 (.int .i64 r) [] 0) {rec_m_ref07_check_l1 : Int → Option Int} (hrec_m_ref07_check_l1 : ∀ {i : Int}, rec_m_ref07_check_l1 i = some r → LWp Pg 30 0 i52_L0 ⟨[(0, .bad), (1, .int .i64 deep), (2, .ptr 0 0), (4, .bad), (5, .int .i64 i), (6, .bad), (8, .bad), (11, .bad), (16, .bad), (28, .bad)], [], [(0, .box [.int .i64 x0.Kind, .int .i64 x0.N, .str x0.Name, sl TExpr.c x0.Kids])], 1⟩ (blockQ 0 (seqQ Pg 30 0 (.seq (.reg none i52_R11) .ret) (qf_52 r)))) {i : Int} (h : m_ref07_check_l1_B rec_m_ref07_check x0 deep rec_m_ref07_check_l1 i = some r) : LWp Pg 30 0 i52_L0 ⟨[(0, .bad), (1, .int .i64 deep), (2, .ptr 0 0), (4, .bad), (5, .int .i64 i), (6, .bad), (8, .bad), (11, .bad), (16, .bad), (28, .bad)], [], [(0, .box [.int .i64 x0.Kind, .int .i64 x0.N, .str x0.Name, sl TExpr.c x0.Kids])], 1⟩ (blockQ 0 (seqQ Pg 30 0 (.seq (.reg none i52_R11) .ret) (qf_52 r))) := by
  unfold m_ref07_check_l1_B at h
  refine LWp.stepC i52_L0.eq_1 ?_
  refine Wp.seq (Wp.seq (regP (seqN ?_)))
  replace h := ifS h; rcases h with ⟨g4, h⟩ | ⟨g4, h⟩
  · refine condTP (Wp.skip (seqN (Wp.seq (Wp.block (Wp.seq (Wp.reg ?_))))))
    replace h := bndS h; obtain ⟨e, g5, h⟩ := h
    replace h := bndS h; obtain ⟨r0_1, g6, h⟩ := h
    refine chunkT 8 (tab_cons (hrec_m_ref07_check g6) (tab_nil _)) ?_
    refine lastT (tab_nil _) (seqN (Wp.seq ?_))
    refine regP (seqN ?_)
    replace h := ifS h; rcases h with ⟨g7, h⟩ | ⟨g7, h⟩
    · replace h := retS h; subst h
      refine condTP (Wp.seq ?_)
      refine regP (seqN (Wp.ret (blockR (seqR (loopR (blockR (seqR ?_)))))))
      exact finP
    · refine condFP (Wp.skip (blockN (seqN ?_)))
      refine regP (loopN ?_)
      exact jumpL [.kill [6, 16, 28]] (hrec_m_ref07_check_l1 h)
  · replace h := retS h; subst h
    refine condFP (Wp.out (seqO (loopO (blockO (seqN (Wp.seq ?_))))))
    refine regP (seqN (Wp.ret ?_))
    exact finP
theorem w_m_ref07_check_l1 {x0 : TExpr} {deep : Int} {r : Int} {rec_m_ref07_check : TExpr → Int → Option Int} (hrec_m_ref07_check : ∀ {x0 : TExpr} {deep : Int} {r : Int}, rec_m_ref07_check x0 deep = some r → Spec Pg 52 [.agg [.int .i64 x0.Kind, .int .i64 x0.N, .str x0.Name, sl TExpr.c x0.Kids], .int .i64 deep] [] 0 (.int .i64 r) [] 0) : ∀ (n : Nat) {i : Int}, m_ref07_check_l1 rec_m_ref07_check x0 deep n i = some r → LWp Pg 30 0 i52_L0 ⟨[(0, .bad), (1, .int .i64 deep), (2, .ptr 0 0), (4, .bad), (5, .int .i64 i), (6, .bad), (8, .bad), (11, .bad), (16, .bad), (28, .bad)], [], [(0, .box [.int .i64 x0.Kind, .int .i64 x0.N, .str x0.Name, sl TExpr.c x0.Kids])], 1⟩ (blockQ 0 (seqQ Pg 30 0 (.seq (.reg none i52_R11) .ret) (qf_52 r))) := by
  intro n
  induction n with
  | zero => intro i h; unfold m_ref07_check_l1 at h; cases h
  | succ n ih => intro i h; unfold m_ref07_check_l1 at h; exact w_m_ref07_check_l1_B hrec_m_ref07_check ih h
theorem w_m_ref07_check_B {x0 : TExpr} {deep : Int} {r : Int} {rec_m_ref07_check : TExpr → Int → Option Int} (hrec_m_ref07_check : ∀ {x0 : TExpr} {deep : Int} {r : Int}, rec_m_ref07_check x0 deep = some r → Spec Pg 52 [.agg [.int .i64 x0.Kind, .int .i64 x0.N, .str x0.Name, sl TExpr.c x0.Kids], .int .i64 deep] [] 0 (.int .i64 r) [] 0) (h : m_ref07_check_B rec_m_ref07_check x0 deep = some r) : Spec Pg 52 [.agg [.int .i64 x0.Kind, .int .i64 x0.N, .str x0.Name, sl TExpr.c x0.Kids], .int .i64 deep] [] 0 (.int .i64 r) [] 0 := by
  refine Spec.intro Go.Proofs.Try.func52 i52_ok (le_of_ble rfl) ?_
  show Wp Pg 30 0 i52_B ⟨argEnv [.agg [.int .i64 x0.Kind, .int .i64 x0.N, .str x0.Name, sl TExpr.c x0.Kids], .int .i64 deep] i52_V, [], [], 0⟩ (qf_52 r)
  unfold m_ref07_check_B at h
  unfold i52_B
  refine weakP [] ?_
  refine Wp.seq (regP (seqN (Wp.seq (Wp.seq ?_))))
  refine regP (seqN ?_)
  replace h := ifS h; rcases h with ⟨g1, h⟩ | ⟨g1, h⟩
  · replace h := retS h; subst h
    refine condTP (Wp.seq ?_)
    refine regP (seqN (Wp.ret (seqR ?_)))
    exact finP
  · refine condFP (Wp.skip (seqN (Wp.seq (Wp.seq (Wp.reg ?_)))))
    replace h := bndS h; obtain ⟨r0, g2, h⟩ := h
    refine chunkT 2 (tab_cons (w_m_ref07_node g2) (tab_nil _)) ?_
    refine lastT (tab_nil _) (seqN ?_)
    replace h := ifS h; rcases h with ⟨g3, h⟩ | ⟨g3, h⟩
    · refine condFP (Wp.skip (seqN (Wp.seq (Wp.seq ?_))))
      refine regP (seqN (Wp.block (Wp.loop ?_)))
      exact jumpL [.kill [0, 4, 6, 8, 11, 16, 28]] (w_m_ref07_check_l1 hrec_m_ref07_check _ h)
    · replace h := retS h; subst h
      refine condTP (Wp.seq ?_)
      refine regP (seqN (Wp.ret (seqR ?_)))
      exact finP
theorem w_m_ref07_check : ∀ (n : Nat) {x0 : TExpr} {deep : Int} {r : Int}, m_ref07_check n x0 deep = some r → Spec Pg 52 [.agg [.int .i64 x0.Kind, .int .i64 x0.N, .str x0.Name, sl TExpr.c x0.Kids], .int .i64 deep] [] 0 (.int .i64 r) [] 0 := by
  intro n
  induction n with
  | zero => intro x0 deep r h; unfold m_ref07_check at h; cases h
  | succ n ih => intro x0 deep r h; unfold m_ref07_check at h; exact w_m_ref07_check_B ih h
/-! funicular/funicularref07.Check -/
noncomputable abbrev qf_31 (r : Int) : Ex → St → Prop := FinQ 0 [.tmp 2] (.int .i64 r) [] 0
theorem w_m_ref07_Check {x0 : TExpr} {r : Int}   (h : m_ref07_Check x0 = some r) : Spec Pg 31 [.agg [.int .i64 x0.Kind, .int .i64 x0.N, .str x0.Name, sl TExpr.c x0.Kids]] [] 0 (.int .i64 r) [] 0 := by
  refine Spec.intro Go.Proofs.Try.func31 i31_ok (le_of_ble rfl) ?_
  show Wp Pg 5 0 i31_B ⟨argEnv [.agg [.int .i64 x0.Kind, .int .i64 x0.N, .str x0.Name, sl TExpr.c x0.Kids]] i31_V, [], [], 0⟩ (qf_31 r)
  unfold m_ref07_Check at h
  unfold i31_B
  refine weakP [] ?_
  refine Wp.seq (regP (seqN (Wp.seq (Wp.reg ?_))))
  replace h := bndS h; obtain ⟨r0, g1, h⟩ := h
  replace h := retS h; subst h
  refine chunkT 2 (tab_cons (w_m_ref07_check _ g1) (tab_nil _)) ?_
  refine lastT (tab_nil _) (seqN (Wp.ret ?_))
  exact finP
/-! funicular/funicularref08.truth -/
end Go.Proofs.Ytcmejocmohohpaa.R
