/- The program's functions answer what the models answer: 2. -/
import Derived.Test.YtefjblgmnoheiaaMW0
import Derived.Test.YtefjblgmnoheiaaMW1
set_option maxRecDepth 100000
set_option maxHeartbeats 1600000
set_option linter.unusedVariables false
set_option linter.unusedSimpArgs false
set_option linter.defProp false
noncomputable section
namespace Go.Proofs.Ytefjblgmnoheiaa.R
open Go Nat
/-! (*funicular/post.reader).name -/
noncomputable abbrev qf_71_v0 (r : (ByteArray × Treader)) : Ex → St → Prop := FinQ 1 [.tmp 2] (.str r.1) [(0, .box [sl (ci .u8) r.2.f_b, .int .i64 r.2.f_err])] 1
theorem w_m_post_reader_name {r0 : Treader} {r : (ByteArray × Treader)}   (h : m_post_reader_name r0 = some r) : Spec Pg 71 [.ptr 0 0] [(0, .box [sl (ci .u8) r0.f_b, .int .i64 r0.f_err])] 1 (.str r.1) [(0, .box [sl (ci .u8) r.2.f_b, .int .i64 r.2.f_err])] 1 := by
  refine Spec.intro Try.func71 i71_ok (le_of_ble rfl) ?_
  show Wp Pg 22 1 i71_B ⟨argEnv _ i71_V, [], _, _⟩ (qf_71_v0 r)
  unfold m_post_reader_name at h
  unfold i71_B
  refine weakP [] ?_
  refine Wp.seq (regP (seqN (Wp.seq (Wp.reg ?_))))
  replace h := bndS h; obtain ⟨r0_1, g1, h⟩ := h
  refine chunkT 5 (tab_cons (w_m_pack_ReadBytes g1) (tab_nil _)) ?_
  refine lastT (tab_nil _) (seqN (Wp.seq (Wp.seq (Wp.reg ?_))))
  replace h := bndS h; obtain ⟨r0_2, g2, h⟩ := h
  refine chunkF 4 (tab_cons (w_m_post_reader_keep g2) (tab_nil _)) ?_
  refine lastT (tab_nil _) (seqN ?_)
  replace h := ifS h; rcases h with ⟨g3, h⟩ | ⟨g3, h⟩
  · replace h := retS h; subst h
    refine condFP (Wp.skip (seqN (Wp.seq ?_)))
    refine regP (seqN (Wp.ret ?_))
    exact finW [.kill [0, 3, 4, 5, 19], .tidy]
  · replace h := retS h; subst h
    refine condTP (Wp.seq ?_)
    refine regP (seqN (Wp.ret (seqR ?_)))
    exact finW [.kill [0, 3, 4, 5, 19], .tidy]
/-! funicular/pack.ReadInt -/
noncomputable abbrev qf_94 (r : (Int × (List Int) × Int)) : Ex → St → Prop := FinQ 0 [.tmp 2, .tmp 3, .tmp 4] (.tup [.int .i64 r.1, sl (ci .u8) r.2.1, .int .i64 r.2.2]) [] 0
theorem w_m_pack_ReadInt {b : (List Int)} {r : (Int × (List Int) × Int)}   (h : m_pack_ReadInt b = some r) : Spec Pg 94 [sl (ci .u8) b] [] 0 (.tup [.int .i64 r.1, sl (ci .u8) r.2.1, .int .i64 r.2.2]) [] 0 := by
  refine Spec.intro Try.func94 i94_ok (le_of_ble rfl) ?_
  show Wp Pg 24 0 i94_B ⟨argEnv _ i94_V, [], _, _⟩ (qf_94 r)
  unfold m_pack_ReadInt at h
  unfold i94_B
  refine weakP [] ?_
  refine Wp.seq (regP (seqN (Wp.seq (Wp.reg ?_))))
  replace h := bndS h; obtain ⟨r0, g1, h⟩ := h
  replace h := retS h; subst h
  refine chunkT 2 (tab_cons (w_m_pack_ReadUint g1) (tab_nil _)) ?_
  refine lastT (tab_nil _) (seqN (Wp.seq ?_))
  refine regP (seqN (Wp.ret ?_))
  exact finP
/-! (*funicular/post.reader).key -/
noncomputable abbrev qf_72_v0 (r : (Int × Treader)) : Ex → St → Prop := FinQ 1 [.tmp 2] (.int .i64 r.1) [(0, .box [sl (ci .u8) r.2.f_b, .int .i64 r.2.f_err])] 1
theorem w_m_post_reader_key {r0 : Treader} {r : (Int × Treader)}   (h : m_post_reader_key r0 = some r) : Spec Pg 72 [.ptr 0 0] [(0, .box [sl (ci .u8) r0.f_b, .int .i64 r0.f_err])] 1 (.int .i64 r.1) [(0, .box [sl (ci .u8) r.2.f_b, .int .i64 r.2.f_err])] 1 := by
  refine Spec.intro Try.func72 i72_ok (le_of_ble rfl) ?_
  show Wp Pg 21 1 i72_B ⟨argEnv _ i72_V, [], _, _⟩ (qf_72_v0 r)
  unfold m_post_reader_key at h
  unfold i72_B
  refine weakP [] ?_
  refine Wp.seq (regP (seqN (Wp.seq (Wp.reg ?_))))
  replace h := bndS h; obtain ⟨r0_1, g1, h⟩ := h
  refine chunkT 5 (tab_cons (w_m_pack_ReadInt g1) (tab_nil _)) ?_
  refine lastT (tab_nil _) (seqN (Wp.seq (Wp.seq (Wp.reg ?_))))
  replace h := bndS h; obtain ⟨r0_2, g2, h⟩ := h
  refine chunkF 4 (tab_cons (w_m_post_reader_keep g2) (tab_nil _)) ?_
  refine lastT (tab_nil _) (seqN ?_)
  replace h := ifS h; rcases h with ⟨g3, h⟩ | ⟨g3, h⟩
  · replace h := retS h; subst h
    refine condFP (Wp.skip (seqN (Wp.seq ?_)))
    refine regP (seqN (Wp.ret ?_))
    exact finW [.kill [0, 3, 4, 5, 19], .tidy]
  · replace h := retS h; subst h
    refine condTP (Wp.seq ?_)
    refine regP (seqN (Wp.ret (seqR ?_)))
    exact finW [.kill [0, 3, 4, 5, 19], .tidy]
/-! funicular/pack.Name -/
noncomputable abbrev qf_55 (r : Bool) : Ex → St → Prop := FinQ 0 [.tmp 2] (.bool r) [] 0
noncomputable abbrev H_m_pack_Name_l1 (s : ByteArray) (rec0 : Int → Option Bool) (r : Bool) : Prop := ∀ {v9 : Int}, rec0 v9 = some r → LWp Pg 43 0 i55_L0 ⟨[(0, .str s), (2, .bad), (3, .bad), (4, .bad), (5, .bad), (7, sl (ci .u8) (bytesI s)), (8, .int .i64 ((bytesI s).length : Int)), (9, .int .i64 v9), (10, .bad), (33, .bad)], [], [], 0⟩ (blockQ 0 (seqQ Pg 43 0 (.seq (.reg none i55_R8) .ret) (qf_55 r)))
theorem w_m_pack_Name_k3 {s : ByteArray} {r : Bool}   (h : m_pack_Name_k3 s = some r) : Wp Pg 43 0 (.seq (.reg none i55_R8) .ret) ⟨[(0, .str s), (2, .bad), (3, .bad), (4, .bad), (5, .bad), (7, .bad), (8, .bad), (9, .bad), (10, .bad), (33, .bad)], [], [], 0⟩ (qf_55 r) := by
  unfold m_pack_Name_k3 at h
  refine Wp.seq ?_
  replace h := ifS h; rcases h with ⟨g8, h⟩ | ⟨g8, h⟩
  · replace h := retS h; subst h
    refine regP (seqN (Wp.ret ?_))
    exact finP
  · replace h := retS h; subst h
    refine regP (seqN (Wp.ret ?_))
    exact finP
theorem w_m_pack_Name_k2 {s : ByteArray} {v9 : Int} {v33 : Bool} {r : Bool} {rec_m_pack_Name_l1 : Int → Option Bool} (hrec_m_pack_Name_l1 : H_m_pack_Name_l1 s rec_m_pack_Name_l1 r) (h : m_pack_Name_k2 rec_m_pack_Name_l1 v9 v33 = some r) : Wp Pg 43 0 (.cond (.t 33) (.seq (.reg none i55_R6) .ret) .skip) ⟨[(0, .str s), (2, .bad), (3, .bad), (4, .bad), (5, .bad), (7, sl (ci .u8) (bytesI s)), (8, .int .i64 ((bytesI s).length : Int)), (9, .int .i64 v9), (10, .bad), (33, .bool v33)], [], [], 0⟩ (blockQ 1 (seqQ Pg 43 0 (.reg none i55_R7) (loopQ Pg 43 0 i55_L0 (blockQ 0 (seqQ Pg 43 0 (.seq (.reg none i55_R8) .ret) (qf_55 r)))))) := by
  unfold m_pack_Name_k2 at h
  replace h := ifS h; rcases h with ⟨g7, h⟩ | ⟨g7, h⟩
  · replace h := retS h; subst h
    refine condTP (Wp.seq ?_)
    refine regP (seqN (Wp.ret (blockR (seqR (loopR (blockR (seqR ?_)))))))
    exact finP
  · refine condFP (Wp.skip (blockN (seqN ?_)))
    refine regP (loopN ?_)
    exact jumpL [.kill [33]] (hrec_m_pack_Name_l1 h)
theorem w_m_pack_Name_k1 {s : ByteArray} {v9 e : Int} {letter : Bool} {r : Bool} {rec_m_pack_Name_l1 : Int → Option Bool} (hrec_m_pack_Name_l1 : H_m_pack_Name_l1 s rec_m_pack_Name_l1 r) (h : m_pack_Name_k1 rec_m_pack_Name_l1 v9 e letter = some r) : Wp Pg 43 0 (.seq (.reg none i55_R5) (.cond (.t 33) (.seq (.reg none i55_R6) .ret) .skip)) ⟨[(0, .str s), (2, .bad), (3, .int .i64 v9), (4, .int .u8 e), (5, .bool letter), (7, sl (ci .u8) (bytesI s)), (8, .int .i64 ((bytesI s).length : Int)), (9, .int .i64 v9), (10, .bad), (33, .bad)], [], [], 0⟩ (blockQ 1 (seqQ Pg 43 0 (.reg none i55_R7) (loopQ Pg 43 0 i55_L0 (blockQ 0 (seqQ Pg 43 0 (.seq (.reg none i55_R8) .ret) (qf_55 r)))))) := by
  unfold m_pack_Name_k1 at h
  refine Wp.seq ?_
  replace h := ifS h; rcases h with ⟨g4, h⟩ | ⟨g4, h⟩
  · refine regP (seqN ?_)
    exact jumpK [.kill [3, 4, 5]] (w_m_pack_Name_k2 (s := s) hrec_m_pack_Name_l1 h)
  · replace h := ifS h; rcases h with ⟨g5, h⟩ | ⟨g5, h⟩
    · refine regP (seqN ?_)
      exact jumpK [.kill [3, 4, 5]] (w_m_pack_Name_k2 (s := s) hrec_m_pack_Name_l1 h)
    · replace h := ifS h; rcases h with ⟨g6, h⟩ | ⟨g6, h⟩
      · refine regP (seqN ?_)
        exact jumpK [.kill [3, 4, 5]] (w_m_pack_Name_k2 (s := s) hrec_m_pack_Name_l1 h)
      · refine regP (seqN ?_)
        exact jumpK [.kill [3, 4, 5]] (w_m_pack_Name_k2 (s := s) hrec_m_pack_Name_l1 h)
theorem w_m_pack_Name_l1_B {s : ByteArray} {r : Bool}   {rec_m_pack_Name_l1 : Int → Option Bool} (hrec_m_pack_Name_l1 : H_m_pack_Name_l1 s rec_m_pack_Name_l1 r) {v9 : Int} (h : m_pack_Name_l1_B  s rec_m_pack_Name_l1 v9 = some r) : LWp Pg 43 0 i55_L0 ⟨[(0, .str s), (2, .bad), (3, .bad), (4, .bad), (5, .bad), (7, sl (ci .u8) (bytesI s)), (8, .int .i64 ((bytesI s).length : Int)), (9, .int .i64 v9), (10, .bad), (33, .bad)], [], [], 0⟩ (blockQ 0 (seqQ Pg 43 0 (.seq (.reg none i55_R8) .ret) (qf_55 r))) := by
  unfold m_pack_Name_l1_B at h
  refine LWp.stepC i55_L0.eq_1 ?_
  refine Wp.seq (regP (seqN (Wp.seq ?_)))
  replace h := ifS h; rcases h with ⟨g1, h⟩ | ⟨g1, h⟩
  · refine condTP (Wp.skip (seqN (Wp.seq (Wp.block (Wp.seq ?_)))))
    replace h := bndS h; obtain ⟨e, g2, h⟩ := h
    refine regP (seqN (Wp.seq ?_))
    replace h := ifS h; rcases h with ⟨g3, h⟩ | ⟨g3, h⟩
    · refine regP (seqN ?_)
      exact jumpK [.kill [10]] (w_m_pack_Name_k1 (s := s) hrec_m_pack_Name_l1 h)
    · refine regP (seqN ?_)
      exact jumpK [.kill [10]] (w_m_pack_Name_k1 (s := s) hrec_m_pack_Name_l1 h)
  · refine condFP (Wp.out (seqO (loopO (blockO (seqN ?_)))))
    exact jumpK [.kill [7, 8, 9, 10]] (w_m_pack_Name_k3 h)
theorem w_m_pack_Name_l1 {s : ByteArray} {r : Bool}   : ∀ (n : Nat), H_m_pack_Name_l1 s (m_pack_Name_l1  s n) r := by
  intro n
  induction n with
  | zero => intro v9 h; unfold m_pack_Name_l1 at h; cases h
  | succ n ih => intro v9 h; unfold m_pack_Name_l1 at h; exact w_m_pack_Name_l1_B  ih h
theorem w_m_pack_Name {s : ByteArray} {r : Bool}   (h : m_pack_Name s = some r) : Spec Pg 55 [.str s] [] 0 (.bool r) [] 0 := by
  refine Spec.intro Try.func55 i55_ok (le_of_ble rfl) ?_
  show Wp Pg 43 0 i55_B ⟨argEnv _ i55_V, [], _, _⟩ (qf_55 r)
  unfold m_pack_Name at h
  unfold i55_B
  refine weakP [] ?_
  refine Wp.seq (regP (seqN (Wp.seq (Wp.seq ?_))))
  refine regP (seqN (Wp.block (Wp.loop ?_)))
  exact jumpL [.kill [2, 3, 4, 5, 10, 33], .tidy] (w_m_pack_Name_l1 _ h)
/-! funicular/vars.Check -/
noncomputable abbrev qf_56 (r : Int) : Ex → St → Prop := FinQ 0 [.tmp 2] (.int .i64 r) [] 0
noncomputable abbrev H_m_vars_Check_l1 (v : TVars) (rec0 : Int → Option Int) (r : Int) : Prop := ∀ {v21 : Int}, rec0 v21 = some r → LWp Pg 50 0 i56_L0 ⟨[(0, .bad), (1, .ptr 0 0), (2, .bad), (3, .bad), (4, .bad), (5, .bad), (13, .bad), (19, sl cs v.Names), (20, .int .i64 (v.Names.length : Int)), (21, .int .i64 v21), (22, .bad), (36, .bad), (48, .bad)], [], [(0, .box [sl cs v.Names, sl (ci .i64) v.Vals])], 1⟩ (blockQ 1 (seqQ Pg 50 0 (.seq (.reg none i56_R13) .ret) (qf_56 r)))
theorem w_m_vars_Check_k2 {v : TVars} {v21 : Int} {v48 : Bool} {r : Int} {rec_m_vars_Check_l1 : Int → Option Int} (hrec_m_vars_Check_l1 : H_m_vars_Check_l1 v rec_m_vars_Check_l1 r) (h : m_vars_Check_k2 rec_m_vars_Check_l1 v21 v48 = some r) : Wp Pg 50 0 (.cond (.t 48) (.seq (.reg none i56_R11) .ret) .skip) ⟨[(0, .bad), (1, .ptr 0 0), (2, .bad), (3, .bad), (4, .bad), (5, .bad), (13, .bad), (19, sl cs v.Names), (20, .int .i64 (v.Names.length : Int)), (21, .int .i64 v21), (22, .bad), (36, .bad), (48, .bool v48)], [], [(0, .box [sl cs v.Names, sl (ci .i64) v.Vals])], 1⟩ (blockQ 2 (seqQ Pg 50 0 (.reg none i56_R12) (loopQ Pg 50 0 i56_L0 (blockQ 1 (seqQ Pg 50 0 (.seq (.reg none i56_R13) .ret) (qf_56 r)))))) := by
  unfold m_vars_Check_k2 at h
  replace h := ifS h; rcases h with ⟨g11, h⟩ | ⟨g11, h⟩
  · replace h := retS h; subst h
    refine condTP (Wp.seq ?_)
    refine regP (seqN (Wp.ret (blockR (seqR (loopR (blockR (seqR ?_)))))))
    exact finP
  · refine condFP (Wp.skip (blockN (seqN ?_)))
    refine regP (loopN ?_)
    exact jumpL [.kill [48]] (hrec_m_vars_Check_l1 h)
theorem w_m_vars_Check_k1 {v : TVars} {v21 : Int} {e : ByteArray} {v36 : Bool} {r : Int} {rec_m_vars_Check_l1 : Int → Option Int} (hrec_m_vars_Check_l1 : H_m_vars_Check_l1 v rec_m_vars_Check_l1 r) (h : m_vars_Check_k1 rec_m_vars_Check_l1 v v21 e v36 = some r) : Wp Pg 50 0 (.cond (.t 36) (.seq (.reg none i56_R9) .ret) .skip) ⟨[(0, .bad), (1, .ptr 0 0), (2, .bad), (3, .int .i64 v21), (4, .str e), (5, .bad), (13, .bad), (19, sl cs v.Names), (20, .int .i64 (v.Names.length : Int)), (21, .int .i64 v21), (22, .bad), (36, .bool v36), (48, .bad)], [], [(0, .box [sl cs v.Names, sl (ci .i64) v.Vals])], 1⟩ (seqQ Pg 50 0 (.seq (.reg none i56_R10) (.cond (.t 48) (.seq (.reg none i56_R11) .ret) .skip)) (blockQ 2 (seqQ Pg 50 0 (.reg none i56_R12) (loopQ Pg 50 0 i56_L0 (blockQ 1 (seqQ Pg 50 0 (.seq (.reg none i56_R13) .ret) (qf_56 r))))))) := by
  unfold m_vars_Check_k1 at h
  replace h := ifS h; rcases h with ⟨g8, h⟩ | ⟨g8, h⟩
  · replace h := retS h; subst h
    refine condTP (Wp.seq ?_)
    refine regP (seqN (Wp.ret (seqR (blockR (seqR (loopR (blockR (seqR ?_))))))))
    exact finP
  · refine condFP (Wp.skip (seqN (Wp.seq ?_)))
    replace h := ifS h; rcases h with ⟨g9, h⟩ | ⟨g9, h⟩
    · replace h := bndS h; obtain ⟨e_1, g10, h⟩ := h
      refine regP (seqN ?_)
      exact jumpK [.kill [3, 4, 36]] (w_m_vars_Check_k2 (v := v) hrec_m_vars_Check_l1 h)
    · refine regP (seqN ?_)
      exact jumpK [.kill [3, 4, 36]] (w_m_vars_Check_k2 (v := v) hrec_m_vars_Check_l1 h)
theorem w_m_vars_Check_l1_B {v : TVars} {r : Int}   {rec_m_vars_Check_l1 : Int → Option Int} (hrec_m_vars_Check_l1 : H_m_vars_Check_l1 v rec_m_vars_Check_l1 r) {v21 : Int} (h : m_vars_Check_l1_B  v rec_m_vars_Check_l1 v21 = some r) : LWp Pg 50 0 i56_L0 ⟨[(0, .bad), (1, .ptr 0 0), (2, .bad), (3, .bad), (4, .bad), (5, .bad), (13, .bad), (19, sl cs v.Names), (20, .int .i64 (v.Names.length : Int)), (21, .int .i64 v21), (22, .bad), (36, .bad), (48, .bad)], [], [(0, .box [sl cs v.Names, sl (ci .i64) v.Vals])], 1⟩ (blockQ 1 (seqQ Pg 50 0 (.seq (.reg none i56_R13) .ret) (qf_56 r))) := by
  unfold m_vars_Check_l1_B at h
  refine LWp.stepC i56_L0.eq_1 ?_
  refine Wp.seq (regP (seqN (Wp.seq ?_)))
  replace h := ifS h; rcases h with ⟨g3, h⟩ | ⟨g3, h⟩
  · refine condTP (Wp.skip (seqN (Wp.seq (Wp.block (Wp.seq ?_)))))
    replace h := bndS h; obtain ⟨e, g4, h⟩ := h
    refine regP (seqN (Wp.seq (Wp.seq (Wp.reg ?_))))
    replace h := bndS h; obtain ⟨r0, g5, h⟩ := h
    refine chunkT 2 (tab_cons (w_m_pack_Name g5) (tab_nil _)) ?_
    replace h := ifS h; rcases h with ⟨g6, h⟩ | ⟨g6, h⟩
    · replace h := ifS h; rcases h with ⟨g7, h⟩ | ⟨g7, h⟩
      · refine lastT (tab_nil _) (seqN ?_)
        exact jumpK [.kill [22]] (w_m_vars_Check_k1 hrec_m_vars_Check_l1 h)
      · refine lastT (tab_nil _) (seqN ?_)
        exact jumpK [.kill [22]] (w_m_vars_Check_k1 hrec_m_vars_Check_l1 h)
    · refine lastT (tab_nil _) (seqN ?_)
      exact jumpK [.kill [22]] (w_m_vars_Check_k1 hrec_m_vars_Check_l1 h)
  · replace h := retS h; subst h
    refine condFP (Wp.out (seqO (loopO (blockO (seqN (Wp.seq ?_))))))
    refine regP (seqN (Wp.ret ?_))
    exact finP
theorem w_m_vars_Check_l1 {v : TVars} {r : Int}   : ∀ (n : Nat), H_m_vars_Check_l1 v (m_vars_Check_l1  v n) r := by
  intro n
  induction n with
  | zero => intro v21 h; unfold m_vars_Check_l1 at h; cases h
  | succ n ih => intro v21 h; unfold m_vars_Check_l1 at h; exact w_m_vars_Check_l1_B  ih h
theorem w_m_vars_Check {v : TVars} {r : Int}   (h : m_vars_Check v = some r) : Spec Pg 56 [.agg [sl cs v.Names, sl (ci .i64) v.Vals]] [] 0 (.int .i64 r) [] 0 := by
  refine Spec.intro Try.func56 i56_ok (le_of_ble rfl) ?_
  show Wp Pg 50 0 i56_B ⟨argEnv _ i56_V, [], _, _⟩ (qf_56 r)
  unfold m_vars_Check at h
  unfold i56_B
  refine weakP [] ?_
  refine Wp.seq (regP (seqN (Wp.seq (Wp.block (Wp.seq ?_)))))
  refine regP (seqN ?_)
  replace h := ifS h; rcases h with ⟨g1, h⟩ | ⟨g1, h⟩
  · replace h := retS h; subst h
    refine condTP (Wp.seq ?_)
    refine regP (seqN (Wp.ret (blockR (seqR ?_))))
    exact finP
  · refine condFP (Wp.seq ?_)
    refine regP (seqN ?_)
    replace h := ifS h; rcases h with ⟨g2, h⟩ | ⟨g2, h⟩
    · replace h := retS h; subst h
      refine condTP (Wp.seq ?_)
      refine regP (seqN (Wp.ret (blockR (seqR ?_))))
      exact finP
    · refine condFP (Wp.skip (blockN (seqN (Wp.seq (Wp.seq ?_)))))
      refine regP (seqN (Wp.block (Wp.loop ?_)))
      exact jumpL [.kill [0, 2, 3, 4, 5, 13, 22, 36, 48]] (w_m_vars_Check_l1 _ h)
/-! funicular/vars.Read -/
noncomputable abbrev qf_95 (r : (TVars × (List Int) × Int)) : Ex → St → Prop := FinQ 0 [.cell 2 true 2, .tmp 3, .tmp 4] (.tup [.agg [sl cs r.1.Names, sl (ci .i64) r.1.Vals], sl (ci .u8) r.2.1, .int .i64 r.2.2]) [] 0
noncomputable abbrev H_m_vars_Read_l1 (r0 : (Int × (List Int) × Int)) (rec0 : (List Int) → Int → (List ByteArray) → (List Int) → Option (TVars × (List Int) × Int)) (r : (TVars × (List Int) × Int)) : Prop := ∀ {b_1 : (List Int)} {v27 : Int} {v_0 : (List ByteArray)} {v_1 : (List Int)}, rec0 b_1 v27 v_0 v_1 = some r → LWp Pg 72 0 i95_L0 ⟨[(0, sl (ci .u8) b_1), (2, .ptr 0 0), (3, .bad), (4, .bad), (5, .bad), (6, .bad), (7, .ptr 1 0), (8, .bad), (9, .bad), (10, .bad), (11, .bad), (12, .bad), (20, .bad), (24, .bad), (26, .int .u64 r0.1), (27, .int .u64 v27), (28, .bad), (36, .bad), (46, .bad), (67, .bad)], [], [(0, .box [.nil, .nil]), (1, .box [.own 1 2 0 v_0.length false, .own 1 3 0 v_1.length false]), (2, .arr 1 (List.map cs v_0) 0), (3, .arr 1 (List.map (ci .i64) v_1) 0)], 4⟩ (blockQ 0 (seqQ Pg 72 0 (.seq (.seq (.reg none i95_R17) (.seq (.reg none i95_R18) (.cond (.t 67) (.seq (.reg none i95_R19) .ret) .skip))) (.seq (.reg none i95_R20) .ret)) (qf_95 r)))
theorem w_m_vars_Read_k1 {b_2 : (List Int)} {v_0_1 : (List ByteArray)} {v_1_1 : (List Int)} {r : (TVars × (List Int) × Int)}   (h : m_vars_Read_k1 b_2 v_0_1 v_1_1 = some r) : Wp Pg 72 0 (.seq (.seq (.reg none i95_R17) (.seq (.reg none i95_R18) (.cond (.t 67) (.seq (.reg none i95_R19) .ret) .skip))) (.seq (.reg none i95_R20) .ret)) ⟨[(0, sl (ci .u8) b_2), (2, .ptr 0 0), (3, .bad), (4, .bad), (5, .bad), (6, .bad), (7, .ptr 1 0), (8, .bad), (9, .bad), (10, .bad), (11, .bad), (12, .bad), (20, .bad), (24, .bad), (26, .bad), (27, .bad), (28, .bad), (36, .bad), (46, .bad), (67, .bad)], [], [(0, .box [.nil, .nil]), (1, .box [.own 1 2 0 v_0_1.length false, .own 1 3 0 v_1_1.length false]), (2, .arr 1 (List.map cs v_0_1) 0), (3, .arr 1 (List.map (ci .i64) v_1_1) 0)], 4⟩ (qf_95 r) := by
  unfold m_vars_Read_k1 at h
  refine Wp.seq (Wp.seq (Wp.reg ?_))
  replace h := bndS h; obtain ⟨r0_3, g11, h⟩ := h
  refine chunkT 2 (tab_cons (w_m_vars_Check g11) (tab_nil _)) ?_
  refine lastT (tab_nil _) (seqN (Wp.seq ?_))
  refine regP (seqN ?_)
  replace h := ifS h; rcases h with ⟨g12, h⟩ | ⟨g12, h⟩
  · replace h := retS h; subst h
    refine condTP (Wp.seq ?_)
    refine regP (seqN ?_)
    refine weakP [.cell 2 0 .frz, .cell 2 1 .frz, .at 3 .frz] (Wp.ret (seqR ?_))
    exact finP
  · replace h := retS h; subst h
    refine condFP (Wp.skip (seqN (Wp.seq ?_)))
    refine regP (seqN ?_)
    refine weakP [.cell 2 0 .frz, .cell 2 1 .frz] (Wp.ret ?_)
    exact finP
theorem w_m_vars_Read_l1_B {r0 : (Int × (List Int) × Int)} {r : (TVars × (List Int) × Int)}   {rec_m_vars_Read_l1 : (List Int) → Int → (List ByteArray) → (List Int) → Option (TVars × (List Int) × Int)} (hrec_m_vars_Read_l1 : H_m_vars_Read_l1 r0 rec_m_vars_Read_l1 r) {b_1 : (List Int)} {v27 : Int} {v_0 : (List ByteArray)} {v_1 : (List Int)} (h : m_vars_Read_l1_B  r0 rec_m_vars_Read_l1 b_1 v27 v_0 v_1 = some r) : LWp Pg 72 0 i95_L0 ⟨[(0, sl (ci .u8) b_1), (2, .ptr 0 0), (3, .bad), (4, .bad), (5, .bad), (6, .bad), (7, .ptr 1 0), (8, .bad), (9, .bad), (10, .bad), (11, .bad), (12, .bad), (20, .bad), (24, .bad), (26, .int .u64 r0.1), (27, .int .u64 v27), (28, .bad), (36, .bad), (46, .bad), (67, .bad)], [], [(0, .box [.nil, .nil]), (1, .box [.own 1 2 0 v_0.length false, .own 1 3 0 v_1.length false]), (2, .arr 1 (List.map cs v_0) 0), (3, .arr 1 (List.map (ci .i64) v_1) 0)], 4⟩ (blockQ 0 (seqQ Pg 72 0 (.seq (.seq (.reg none i95_R17) (.seq (.reg none i95_R18) (.cond (.t 67) (.seq (.reg none i95_R19) .ret) .skip))) (.seq (.reg none i95_R20) .ret)) (qf_95 r))) := by
  unfold m_vars_Read_l1_B at h
  refine LWp.stepC i95_L0.eq_1 ?_
  refine Wp.seq (regP (seqN (Wp.seq ?_)))
  replace h := ifS h; rcases h with ⟨g4, h⟩ | ⟨g4, h⟩
  · refine condTP (Wp.skip (seqN (Wp.seq (Wp.block (Wp.seq (Wp.reg ?_))))))
    replace h := bndS h; obtain ⟨r0_1, g5, h⟩ := h
    refine chunkT 2 (tab_cons (w_m_pack_ReadBytes g5) (tab_nil _)) ?_
    refine lastT (tab_nil _) (seqN (Wp.seq (Wp.seq ?_)))
    refine regP (seqN ?_)
    replace h := ifS h; rcases h with ⟨g6, h⟩ | ⟨g6, h⟩
    · replace h := retS h; subst h
      refine condTP (Wp.seq ?_)
      refine regP (seqN ?_)
      refine weakP [.cell 2 0 .frz, .cell 2 1 .frz, .at 3 .frz] (Wp.ret (seqR (blockR (seqR (loopR (blockR (seqR ?_)))))))
      exact finP
    · refine condFP (Wp.skip (seqN (Wp.seq (Wp.reg ?_))))
      replace h := bndS h; obtain ⟨r0_2, g7, h⟩ := h
      refine chunkT 2 (tab_cons (w_m_pack_ReadInt g7) (tab_nil _)) ?_
      refine lastT (tab_nil _) (seqN (Wp.seq (Wp.seq ?_)))
      refine regP (seqN ?_)
      replace h := ifS h; rcases h with ⟨g8, h⟩ | ⟨g8, h⟩
      · replace h := retS h; subst h
        refine condTP (Wp.seq ?_)
        refine regP (seqN ?_)
        refine weakP [.cell 2 0 .frz, .cell 2 1 .frz, .at 3 .frz] (Wp.ret (seqR (blockR (seqR (loopR (blockR (seqR ?_)))))))
        exact finP
      · refine condFP (Wp.skip (seqN ?_))
        replace h := reqS h; obtain ⟨g9, h⟩ := h
        replace h := reqS h; obtain ⟨g10, h⟩ := h
        refine drawP [] mixed (clsN _) (blockN (seqN ?_))
        refine regP (loopN ?_)
        exact jumpL [.kill [8, 9, 10, 11, 28, 36, 46], .tidy] (hrec_m_vars_Read_l1 h)
  · refine condFP (Wp.out (seqO (loopO (blockO (seqN ?_)))))
    exact jumpK [.kill [26, 27, 28]] (w_m_vars_Read_k1 h)
theorem w_m_vars_Read_l1 {r0 : (Int × (List Int) × Int)} {r : (TVars × (List Int) × Int)}   : ∀ (n : Nat), H_m_vars_Read_l1 r0 (m_vars_Read_l1  r0 n) r := by
  intro n
  induction n with
  | zero => intro b_1 v27 v_0 v_1 h; unfold m_vars_Read_l1 at h; cases h
  | succ n ih => intro b_1 v27 v_0 v_1 h; unfold m_vars_Read_l1 at h; exact w_m_vars_Read_l1_B  ih h
theorem w_m_vars_Read {b : (List Int)} {r : (TVars × (List Int) × Int)}   (h : m_vars_Read b = some r) : Spec Pg 95 [sl (ci .u8) b] [] 0 (.tup [.agg [sl cs r.1.Names, sl (ci .i64) r.1.Vals], sl (ci .u8) r.2.1, .int .i64 r.2.2]) [] 0 := by
  refine Spec.intro Try.func95 i95_ok (le_of_ble rfl) ?_
  show Wp Pg 72 0 i95_B ⟨argEnv _ i95_V, [], _, _⟩ (qf_95 r)
  unfold m_vars_Read at h
  unfold i95_B
  refine weakP [] ?_
  refine Wp.seq (regP (seqN (Wp.seq (Wp.reg ?_))))
  replace h := bndS h; obtain ⟨r0, g1, h⟩ := h
  refine chunkT 2 (tab_cons (w_m_pack_ReadUint g1) (tab_nil _)) ?_
  refine lastT (tab_nil _) (seqN (Wp.seq (Wp.seq ?_)))
  refine regP (seqN ?_)
  replace h := ifS h; rcases h with ⟨g2, h⟩ | ⟨g2, h⟩
  · replace h := retS h; subst h
    refine condTP (Wp.seq ?_)
    refine regP (seqN ?_)
    refine weakP [.cell 2 0 .frz, .cell 2 1 .frz, .at 3 .frz] (Wp.ret (seqR ?_))
    exact finP
  · refine condFP (Wp.skip (seqN (Wp.seq (Wp.seq ?_))))
    refine regP (seqN ?_)
    replace h := ifS h; rcases h with ⟨g3, h⟩ | ⟨g3, h⟩
    · replace h := retS h; subst h
      refine condTP (Wp.seq ?_)
      refine regP (seqN ?_)
      refine weakP [.cell 2 0 .frz, .cell 2 1 .frz, .at 3 .frz] (Wp.ret (seqR ?_))
      exact finP
    · refine condFP (Wp.skip (seqN (Wp.seq ?_)))
      refine regP (seqN (Wp.seq (Wp.seq ?_)))
      refine regP (seqN (Wp.block (Wp.loop ?_)))
      exact jumpL [.kill [3, 4, 5, 6, 8, 9, 10, 11, 12, 20, 24, 28, 36, 46, 67], .cell 7 0 (.virt 1), .cell 7 1 (.virt 1), .tidy] (w_m_vars_Read_l1 _ h)
/-! (*funicular/post.reader).vars -/
noncomputable abbrev qf_73_v0 (r : (TVars × Treader)) : Ex → St → Prop := FinQ 1 [.cell 2 true 2] (.agg [sl cs r.1.Names, sl (ci .i64) r.1.Vals]) [(0, .box [sl (ci .u8) r.2.f_b, .int .i64 r.2.f_err])] 1
theorem w_m_post_reader_vars {r0 : Treader} {r : (TVars × Treader)}   (h : m_post_reader_vars r0 = some r) : Spec Pg 73 [.ptr 0 0] [(0, .box [sl (ci .u8) r0.f_b, .int .i64 r0.f_err])] 1 (.agg [sl cs r.1.Names, sl (ci .i64) r.1.Vals]) [(0, .box [sl (ci .u8) r.2.f_b, .int .i64 r.2.f_err])] 1 := by
  refine Spec.intro Try.func73 i73_ok (le_of_ble rfl) ?_
  show Wp Pg 22 1 i73_B ⟨argEnv _ i73_V, [], _, _⟩ (qf_73_v0 r)
  unfold m_post_reader_vars at h
  unfold i73_B
  refine weakP [] ?_
  refine Wp.seq (regP (seqN (Wp.seq (Wp.reg ?_))))
  replace h := bndS h; obtain ⟨r0_1, g1, h⟩ := h
  refine chunkT 5 (tab_cons (w_m_vars_Read g1) (tab_nil _)) ?_
  refine lastT (tab_nil _) (seqN (Wp.seq (Wp.seq (Wp.reg ?_))))
  replace h := bndS h; obtain ⟨r0_2, g2, h⟩ := h
  refine chunkF 4 (tab_cons (w_m_post_reader_keep g2) (tab_nil _)) ?_
  refine lastT (tab_nil _) (seqN ?_)
  replace h := ifS h; rcases h with ⟨g3, h⟩ | ⟨g3, h⟩
  · replace h := retS h; subst h
    refine condFP (Wp.skip (seqN (Wp.seq ?_)))
    refine regP (seqN (Wp.ret ?_))
    exact finW [.kill [0, 3, 4, 5, 19], .tidy]
  · replace h := retS h; subst h
    refine condTP (Wp.seq ?_)
    refine regP (seqN (Wp.ret (seqR ?_)))
    exact finW [.cell 2 0 .frz, .cell 2 1 .frz, .kill [0, 3, 4, 5, 19], .tidy]
/-! funicular/pack.Uint -/
noncomputable abbrev qf_96_v0 (r : (List Int)) : Ex → St → Prop := FinQ 0 [.tmp 4] (.own 1 0 0 r.length false) [(0, .arr 1 (List.map (ci .u8) r) 0)] 1
noncomputable abbrev H_m_pack_Uint_l1  (rec0 : Int → (List Int) → Option (List Int)) (r : (List Int)) : Prop := ∀ {n0_1 : Int} {b : (List Int)}, rec0 n0_1 b = some r → LWp Pg 20 0 i96_L0 ⟨[(0, .own 1 0 0 b.length false), (1, .int .u64 n0_1), (4, .bad), (6, .bad)], [], [(0, .arr 1 (List.map (ci .u8) b) 0)], 1⟩ (blockQ 0 (seqQ Pg 20 0 (.seq (.reg none i96_R4) .ret) (qf_96_v0 r)))
theorem w_m_pack_Uint_k1 {n0_2 : Int} {b_1 : (List Int)} {r : (List Int)}   (h : m_pack_Uint_k1 n0_2 b_1 = some r) : Wp Pg 20 0 (.seq (.reg none i96_R4) .ret) ⟨[(0, .own 1 0 0 b_1.length false), (1, .int .u64 n0_2), (4, .bad), (6, .bad)], [], [(0, .arr 1 (List.map (ci .u8) b_1) 0)], 1⟩ (qf_96_v0 r) := by
  unfold m_pack_Uint_k1 at h
  refine Wp.seq ?_
  replace h := reqS h; obtain ⟨g3, h⟩ := h
  replace h := retS h; subst h
  refine regP (seqN (Wp.ret ?_))
  exact finW [.kill [0, 1], .tidy]
theorem w_m_pack_Uint_l1_B  {r : (List Int)}   {rec_m_pack_Uint_l1 : Int → (List Int) → Option (List Int)} (hrec_m_pack_Uint_l1 : H_m_pack_Uint_l1  rec_m_pack_Uint_l1 r) {n0_1 : Int} {b : (List Int)} (h : m_pack_Uint_l1_B   rec_m_pack_Uint_l1 n0_1 b = some r) : LWp Pg 20 0 i96_L0 ⟨[(0, .own 1 0 0 b.length false), (1, .int .u64 n0_1), (4, .bad), (6, .bad)], [], [(0, .arr 1 (List.map (ci .u8) b) 0)], 1⟩ (blockQ 0 (seqQ Pg 20 0 (.seq (.reg none i96_R4) .ret) (qf_96_v0 r))) := by
  unfold m_pack_Uint_l1_B at h
  refine LWp.stepC i96_L0.eq_1 ?_
  refine Wp.seq (Wp.seq (regP (seqN ?_)))
  replace h := ifS h; rcases h with ⟨g1, h⟩ | ⟨g1, h⟩
  · refine condTP (Wp.skip (seqN (Wp.block (Wp.seq ?_))))
    replace h := reqS h; obtain ⟨g2, h⟩ := h
    refine regP (seqN ?_)
    refine regP (blockN (loopN ?_))
    exact jumpL [.kill [6], .tidy] (hrec_m_pack_Uint_l1 h)
  · refine condFP (Wp.out (seqO (loopO (blockO (seqN ?_)))))
    exact jumpK [.kill [6]] (w_m_pack_Uint_k1 h)
theorem w_m_pack_Uint_l1  {r : (List Int)}   : ∀ (n : Nat), H_m_pack_Uint_l1  (m_pack_Uint_l1   n) r := by
  intro n
  induction n with
  | zero => intro n0_1 b h; unfold m_pack_Uint_l1 at h; cases h
  | succ n ih => intro n0_1 b h; unfold m_pack_Uint_l1 at h; exact w_m_pack_Uint_l1_B  ih h
theorem w_m_pack_Uint {n0 : Int} {r : (List Int)}   (h : m_pack_Uint n0 = some r) : Spec Pg 96 [.nil, .int .u64 n0] [] 0 (.own 1 0 0 r.length false) [(0, .arr 1 (List.map (ci .u8) r) 0)] 1 := by
  refine Spec.intro Try.func96 i96_ok (le_of_ble rfl) ?_
  show Wp Pg 20 0 i96_B ⟨argEnv _ i96_V, [], _, _⟩ (qf_96_v0 r)
  unfold m_pack_Uint at h
  unfold i96_B
  refine weakP [] ?_
  refine Wp.seq (regP (seqN (Wp.seq (Wp.block (Wp.loop ?_)))))
  exact jumpL [.kill [4, 6], .at 0 (.virt 1)] (w_m_pack_Uint_l1 _ h)
/-! funicular/post.wide -/
noncomputable abbrev qf_35 (r : Bool) : Ex → St → Prop := FinQ 0 [.tmp 2] (.bool r) [] 0
theorem w_m_post_wide {n0 : Int} {r : Bool}   (h : m_post_wide n0 = some r) : Spec Pg 35 [.int .i64 n0] [] 0 (.bool r) [] 0 := by
  refine Spec.intro Try.func35 i35_ok (le_of_ble rfl) ?_
  show Wp Pg 9 0 i35_B ⟨argEnv _ i35_V, [], _, _⟩ (qf_35 r)
  unfold m_post_wide at h
  unfold i35_B
  refine weakP [] ?_
  refine Wp.seq (regP (seqN (Wp.seq ?_)))
  replace h := ifS h; rcases h with ⟨g1, h⟩ | ⟨g1, h⟩
  · replace h := retS h; subst h
    refine regP (seqN (Wp.ret ?_))
    exact finP
  · replace h := retS h; subst h
    refine regP (seqN (Wp.ret ?_))
    exact finP
/-! funicular/post.part -/
noncomputable abbrev qf_78 (r : Bool) : Ex → St → Prop := FinQ 0 [.tmp 2] (.bool r) [] 0
theorem w_m_post_part {n0 : Int} {r : Bool}   (h : m_post_part n0 = some r) : Spec Pg 78 [.int .i64 n0] [] 0 (.bool r) [] 0 := by
  refine Spec.intro Try.func78 i78_ok (le_of_ble rfl) ?_
  show Wp Pg 9 0 i78_B ⟨argEnv _ i78_V, [], _, _⟩ (qf_78 r)
  unfold m_post_part at h
  unfold i78_B
  refine weakP [] ?_
  refine Wp.seq (regP (seqN (Wp.seq ?_)))
  replace h := ifS h; rcases h with ⟨g1, h⟩ | ⟨g1, h⟩
  · replace h := retS h; subst h
    refine regP (seqN (Wp.ret ?_))
    exact finP
  · replace h := retS h; subst h
    refine regP (seqN (Wp.ret ?_))
    exact finP
/-! slices.Index[[]funicular/api.Who,funicular/api.Who] -/
noncomputable abbrev qf_97 (r : Int) : Ex → St → Prop := FinQ 0 [.tmp 4] (.int .i64 r) [] 0
noncomputable abbrev H_m_slices_Index_api_Who_api_Who_l1 (s : (List TWho)) (v : TWho) (rec0 : Int → Option Int) (r : Int) : Prop := ∀ {v8 : Int}, rec0 v8 = some r → LWp Pg 19 0 i97_L0 ⟨[(0, sl TWho.c s), (1, .bad), (3, .ptr 0 0), (4, .bad), (5, .bad), (7, .int .i64 (s.length : Int)), (8, .int .i64 v8), (9, .bad), (16, .bad)], [], [(0, .box [.int .i64 v.Part, .int .i64 v.Inst])], 1⟩ (blockQ 0 (seqQ Pg 19 0 (.seq (.reg none i97_R7) .ret) (qf_97 r)))
theorem w_m_slices_Index_api_Who_api_Who_l1_B {s : (List TWho)} {v : TWho} {r : Int}   {rec_m_slices_Index_api_Who_api_Who_l1 : Int → Option Int} (hrec_m_slices_Index_api_Who_api_Who_l1 : H_m_slices_Index_api_Who_api_Who_l1 s v rec_m_slices_Index_api_Who_api_Who_l1 r) {v8 : Int} (h : m_slices_Index_api_Who_api_Who_l1_B  s v rec_m_slices_Index_api_Who_api_Who_l1 v8 = some r) : LWp Pg 19 0 i97_L0 ⟨[(0, sl TWho.c s), (1, .bad), (3, .ptr 0 0), (4, .bad), (5, .bad), (7, .int .i64 (s.length : Int)), (8, .int .i64 v8), (9, .bad), (16, .bad)], [], [(0, .box [.int .i64 v.Part, .int .i64 v.Inst])], 1⟩ (blockQ 0 (seqQ Pg 19 0 (.seq (.reg none i97_R7) .ret) (qf_97 r))) := by
  unfold m_slices_Index_api_Who_api_Who_l1_B at h
  refine LWp.stepC i97_L0.eq_1 ?_
  refine Wp.seq (regP (seqN (Wp.seq ?_)))
  replace h := ifS h; rcases h with ⟨g1, h⟩ | ⟨g1, h⟩
  · refine condTP (Wp.skip (seqN (Wp.seq (Wp.block (Wp.seq ?_)))))
    refine regP (seqN (Wp.seq ?_))
    replace h := bndS h; obtain ⟨e, g2, h⟩ := h
    refine drawP [] mixed (clsN _) (seqN ?_)
    replace h := ifS h; rcases h with ⟨g3, h⟩ | ⟨g3, h⟩
    · replace h := retS h; subst h
      refine condTP (Wp.seq ?_)
      refine regP (seqN (Wp.ret (blockR (seqR (loopR (blockR (seqR ?_)))))))
      exact finP
    · refine condFP (Wp.skip (blockN (seqN ?_)))
      refine regP (loopN ?_)
      exact jumpL [.kill [5, 9, 16], .tidy] (hrec_m_slices_Index_api_Who_api_Who_l1 h)
  · replace h := retS h; subst h
    refine condFP (Wp.out (seqO (loopO (blockO (seqN (Wp.seq ?_))))))
    refine regP (seqN (Wp.ret ?_))
    exact finP
theorem w_m_slices_Index_api_Who_api_Who_l1 {s : (List TWho)} {v : TWho} {r : Int}   : ∀ (n : Nat), H_m_slices_Index_api_Who_api_Who_l1 s v (m_slices_Index_api_Who_api_Who_l1  s v n) r := by
  intro n
  induction n with
  | zero => intro v8 h; unfold m_slices_Index_api_Who_api_Who_l1 at h; cases h
  | succ n ih => intro v8 h; unfold m_slices_Index_api_Who_api_Who_l1 at h; exact w_m_slices_Index_api_Who_api_Who_l1_B  ih h
theorem w_m_slices_Index_api_Who_api_Who {s : (List TWho)} {v : TWho} {r : Int}   (h : m_slices_Index_api_Who_api_Who s v = some r) : Spec Pg 97 [sl TWho.c s, .agg [.int .i64 v.Part, .int .i64 v.Inst]] [] 0 (.int .i64 r) [] 0 := by
  refine Spec.intro Try.func97 i97_ok (le_of_ble rfl) ?_
  show Wp Pg 19 0 i97_B ⟨argEnv _ i97_V, [], _, _⟩ (qf_97 r)
  unfold m_slices_Index_api_Who_api_Who at h
  unfold i97_B
  refine weakP [] ?_
  refine Wp.seq (regP (seqN (Wp.seq (Wp.seq ?_))))
  refine regP (seqN (Wp.block (Wp.loop ?_)))
  exact jumpL [.kill [1, 4, 5, 9, 16]] (w_m_slices_Index_api_Who_api_Who_l1 _ h)
/-! slices.Contains[[]funicular/api.Who,funicular/api.Who] -/
noncomputable abbrev qf_79 (r : Bool) : Ex → St → Prop := FinQ 0 [.tmp 4] (.bool r) [] 0
theorem w_m_slices_Contains_api_Who_api_Who {s : (List TWho)} {v : TWho} {r : Bool}   (h : m_slices_Contains_api_Who_api_Who s v = some r) : Spec Pg 79 [sl TWho.c s, .agg [.int .i64 v.Part, .int .i64 v.Inst]] [] 0 (.bool r) [] 0 := by
  refine Spec.intro Try.func79 i79_ok (le_of_ble rfl) ?_
  show Wp Pg 9 0 i79_B ⟨argEnv _ i79_V, [], _, _⟩ (qf_79 r)
  unfold m_slices_Contains_api_Who_api_Who at h
  unfold i79_B
  refine weakP [] ?_
  refine Wp.seq (regP (seqN (Wp.seq (Wp.reg ?_))))
  replace h := bndS h; obtain ⟨r0, g1, h⟩ := h
  replace h := retS h; subst h
  refine chunkT 3 (tab_cons (w_m_slices_Index_api_Who_api_Who g1) (tab_nil _)) ?_
  refine lastT (tab_nil _) (seqN (Wp.ret ?_))
  exact finP
end Go.Proofs.Ytefjblgmnoheiaa.R
