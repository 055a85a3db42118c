/- The program's functions answer what the models answer: 1. -/
import Derived.Test.YtjhnlgelcfplaaaMW0
set_option maxRecDepth 100000
set_option maxHeartbeats 1600000
set_option linter.unusedVariables false
set_option linter.unusedSimpArgs false
set_option linter.defProp false
noncomputable section
namespace Go.Proofs.Ytjhnlgelcfplaaa.R
open Go Nat
/-! funicular/pack.Uint -/
noncomputable abbrev qf_61_v0 (r : (List Int)) : Ex → St → Prop := FinQ 0 [.tmp 4] (.own 1 0 0 r.length false) [(0, .arr 1 (List.map (ci .u8) r) 0)] 1
theorem w_m_pack_Uint_k1 {n0_2 : Int} {b_1 : (List Int)} {r : (List Int)}   (h : m_pack_Uint_k1 n0_2 b_1 = some r) : Wp Pg 20 0 (.seq (.reg none i61_R4) .ret) ⟨[(0, .own 1 0 0 b_1.length false), (1, .int .u64 n0_2), (4, .bad), (6, .bad)], [], [(0, .arr 1 (List.map (ci .u8) b_1) 0)], 1⟩ (qf_61_v0 r) := by
  unfold m_pack_Uint_k1 at h
  refine Wp.seq ?_
  replace h := reqS h; obtain ⟨g3, h⟩ := h
  replace h := retS h; subst h
  refine regP (seqN ?_)
  refine weakP [.kill [0, 1], .tidy] (Wp.ret ?_)
  exact finP
theorem w_m_pack_Uint_l1_B  {r : (List Int)}   {rec_m_pack_Uint_l1 : Int → (List Int) → Option (List Int)} (hrec_m_pack_Uint_l1 : ∀ {n0_1 : Int} {b : (List Int)}, rec_m_pack_Uint_l1 n0_1 b = some r → LWp Pg 20 0 i61_L0 ⟨[(0, .own 1 0 0 b.length false), (1, .int .u64 n0_1), (4, .bad), (6, .bad)], [], [(0, .arr 1 (List.map (ci .u8) b) 0)], 1⟩ (blockQ 0 (seqQ Pg 20 0 (.seq (.reg none i61_R4) .ret) (qf_61_v0 r)))) {n0_1 : Int} {b : (List Int)} (h : m_pack_Uint_l1_B   rec_m_pack_Uint_l1 n0_1 b = some r) : LWp Pg 20 0 i61_L0 ⟨[(0, .own 1 0 0 b.length false), (1, .int .u64 n0_1), (4, .bad), (6, .bad)], [], [(0, .arr 1 (List.map (ci .u8) b) 0)], 1⟩ (blockQ 0 (seqQ Pg 20 0 (.seq (.reg none i61_R4) .ret) (qf_61_v0 r))) := by
  unfold m_pack_Uint_l1_B at h
  refine LWp.stepC i61_L0.eq_1 ?_
  refine Wp.seq (Wp.seq (regP (seqN ?_)))
  replace h := ifS h; rcases h with ⟨g1, h⟩ | ⟨g1, h⟩
  · refine condTP (Wp.skip (seqN (Wp.block (Wp.seq ?_))))
    replace h := reqS h; obtain ⟨g2, h⟩ := h
    refine regP (seqN ?_)
    refine regP (blockN (loopN ?_))
    exact jumpL [.kill [6], .tidy] (hrec_m_pack_Uint_l1 h)
  · refine condFP (Wp.out (seqO (loopO (blockO (seqN ?_)))))
    exact jumpK [.kill [6]] (w_m_pack_Uint_k1 h)
theorem w_m_pack_Uint_l1  {r : (List Int)}   : ∀ (n : Nat) {n0_1 : Int} {b : (List Int)}, m_pack_Uint_l1   n n0_1 b = some r → LWp Pg 20 0 i61_L0 ⟨[(0, .own 1 0 0 b.length false), (1, .int .u64 n0_1), (4, .bad), (6, .bad)], [], [(0, .arr 1 (List.map (ci .u8) b) 0)], 1⟩ (blockQ 0 (seqQ Pg 20 0 (.seq (.reg none i61_R4) .ret) (qf_61_v0 r))) := by
  intro n
  induction n with
  | zero => intro n0_1 b h; unfold m_pack_Uint_l1 at h; cases h
  | succ n ih => intro n0_1 b h; unfold m_pack_Uint_l1 at h; exact w_m_pack_Uint_l1_B  ih h
theorem w_m_pack_Uint {n0 : Int} {r : (List Int)}   (h : m_pack_Uint n0 = some r) : Spec Pg 61 [.nil, .int .u64 n0] [] 0 (.own 1 0 0 r.length false) [(0, .arr 1 (List.map (ci .u8) r) 0)] 1 := by
  refine Spec.intro Go.Proofs.Try.func61 i61_ok (le_of_ble rfl) ?_
  show Wp Pg 20 0 i61_B ⟨argEnv [.nil, .int .u64 n0] i61_V, [], [], 0⟩ (qf_61_v0 r)
  unfold m_pack_Uint at h
  unfold i61_B
  refine weakP [] ?_
  refine Wp.seq (regP (seqN (Wp.seq (Wp.block (Wp.loop ?_)))))
  exact jumpL [.kill [4, 6], .at 0 (.virt 1)] (w_m_pack_Uint_l1 _ h)
/-! funicular/pack.Uint -/
noncomputable abbrev qf_61_v1 (r : (List Int)) : Ex → St → Prop := FinQ 1 [.tmp 4] (.own 1 1 0 r.length false) [(1, .arr 1 (List.map (ci .u8) r) 0)] 2
theorem w_m_pack_Uint_v1_k1 {n0_2 : Int} {b_2 : (List Int)} {r : (List Int)}   (h : m_pack_Uint_v1_k1 n0_2 b_2 = some r) : Wp Pg 20 1 (.seq (.reg none i61_R4) .ret) ⟨[(0, .own 1 1 0 b_2.length false), (1, .int .u64 n0_2), (4, .bad), (6, .bad)], [], [(1, .arr 1 (List.map (ci .u8) b_2) 0)], 2⟩ (qf_61_v1 r) := by
  unfold m_pack_Uint_v1_k1 at h
  refine Wp.seq ?_
  replace h := reqS h; obtain ⟨g3, h⟩ := h
  replace h := retS h; subst h
  refine regP (seqN ?_)
  refine weakP [.kill [0, 1], .tidy] (Wp.ret ?_)
  exact finP
theorem w_m_pack_Uint_v1_l1_B  {r : (List Int)}   {rec_m_pack_Uint_v1_l1 : Int → (List Int) → Option (List Int)} (hrec_m_pack_Uint_v1_l1 : ∀ {n0_1 : Int} {b_1 : (List Int)}, rec_m_pack_Uint_v1_l1 n0_1 b_1 = some r → LWp Pg 20 1 i61_L0 ⟨[(0, .own 1 1 0 b_1.length false), (1, .int .u64 n0_1), (4, .bad), (6, .bad)], [], [(1, .arr 1 (List.map (ci .u8) b_1) 0)], 2⟩ (blockQ 0 (seqQ Pg 20 1 (.seq (.reg none i61_R4) .ret) (qf_61_v1 r)))) {n0_1 : Int} {b_1 : (List Int)} (h : m_pack_Uint_v1_l1_B   rec_m_pack_Uint_v1_l1 n0_1 b_1 = some r) : LWp Pg 20 1 i61_L0 ⟨[(0, .own 1 1 0 b_1.length false), (1, .int .u64 n0_1), (4, .bad), (6, .bad)], [], [(1, .arr 1 (List.map (ci .u8) b_1) 0)], 2⟩ (blockQ 0 (seqQ Pg 20 1 (.seq (.reg none i61_R4) .ret) (qf_61_v1 r))) := by
  unfold m_pack_Uint_v1_l1_B at h
  refine LWp.stepC i61_L0.eq_1 ?_
  refine Wp.seq (Wp.seq (regP (seqN ?_)))
  replace h := ifS h; rcases h with ⟨g1, h⟩ | ⟨g1, h⟩
  · refine condTP (Wp.skip (seqN (Wp.block (Wp.seq ?_))))
    replace h := reqS h; obtain ⟨g2, h⟩ := h
    refine regP (seqN ?_)
    refine regP (blockN (loopN ?_))
    exact jumpL [.kill [6], .tidy] (hrec_m_pack_Uint_v1_l1 h)
  · refine condFP (Wp.out (seqO (loopO (blockO (seqN ?_)))))
    exact jumpK [.kill [6]] (w_m_pack_Uint_v1_k1 h)
theorem w_m_pack_Uint_v1_l1  {r : (List Int)}   : ∀ (n : Nat) {n0_1 : Int} {b_1 : (List Int)}, m_pack_Uint_v1_l1   n n0_1 b_1 = some r → LWp Pg 20 1 i61_L0 ⟨[(0, .own 1 1 0 b_1.length false), (1, .int .u64 n0_1), (4, .bad), (6, .bad)], [], [(1, .arr 1 (List.map (ci .u8) b_1) 0)], 2⟩ (blockQ 0 (seqQ Pg 20 1 (.seq (.reg none i61_R4) .ret) (qf_61_v1 r))) := by
  intro n
  induction n with
  | zero => intro n0_1 b_1 h; unfold m_pack_Uint_v1_l1 at h; cases h
  | succ n ih => intro n0_1 b_1 h; unfold m_pack_Uint_v1_l1 at h; exact w_m_pack_Uint_v1_l1_B  ih h
theorem w_m_pack_Uint_v1 {b : (List Int)} {n0 : Int} {r : (List Int)}   (h : m_pack_Uint_v1 b n0 = some r) : Spec Pg 61 [.own 1 0 0 b.length false, .int .u64 n0] [(0, .arr 1 (List.map (ci .u8) b) 0)] 1 (.own 1 1 0 r.length false) [(1, .arr 1 (List.map (ci .u8) r) 0)] 2 := by
  refine Spec.intro Go.Proofs.Try.func61 i61_ok (le_of_ble rfl) ?_
  show Wp Pg 20 1 i61_B ⟨argEnv [.own 1 0 0 b.length false, .int .u64 n0] i61_V, [], [(0, .arr 1 (List.map (ci .u8) b) 0)], 1⟩ (qf_61_v1 r)
  unfold m_pack_Uint_v1 at h
  unfold i61_B
  refine weakP [.mov 0] ?_
  refine Wp.seq (regP (seqN (Wp.seq (Wp.block (Wp.loop ?_)))))
  exact jumpL [.kill [4, 6]] (w_m_pack_Uint_v1_l1 _ h)
/-! funicular/pack.Bytes -/
noncomputable abbrev qf_62_v0 (r : (List Int)) : Ex → St → Prop := FinQ 1 [.tmp 4] (.own 1 1 0 r.length false) [(1, .arr 1 (List.map (ci .u8) r) 0)] 2
theorem w_m_pack_Bytes {b : (List Int)} {s : (List Int)} {r : (List Int)}   (h : m_pack_Bytes b s = some r) : Spec Pg 62 [.own 1 0 0 b.length false, sl (ci .u8) s] [(0, .arr 1 (List.map (ci .u8) b) 0)] 1 (.own 1 1 0 r.length false) [(1, .arr 1 (List.map (ci .u8) r) 0)] 2 := by
  refine Spec.intro Go.Proofs.Try.func62 i62_ok (le_of_ble rfl) ?_
  show Wp Pg 12 1 i62_B ⟨argEnv [.own 1 0 0 b.length false, sl (ci .u8) s] i62_V, [], [(0, .arr 1 (List.map (ci .u8) b) 0)], 1⟩ (qf_62_v0 r)
  unfold m_pack_Bytes at h
  unfold i62_B
  refine weakP [.mov 0] ?_
  refine Wp.seq (regP (seqN (Wp.seq (Wp.reg ?_))))
  replace h := bndS h; obtain ⟨r0, g1, h⟩ := h
  refine chunkF 5 (tab_cons (w_m_pack_Uint_v1 g1) (tab_nil _)) ?_
  replace h := reqS h; obtain ⟨g2, h⟩ := h
  replace h := retS h; subst h
  refine lastT (tab_nil _) (seqN ?_)
  refine weakP [.kill [0, 1], .tidy] (Wp.ret ?_)
  exact finP
/-! funicular/pack.Int -/
noncomputable abbrev qf_63_v0 (r : (List Int)) : Ex → St → Prop := FinQ 1 [.tmp 4] (.own 1 1 0 r.length false) [(1, .arr 1 (List.map (ci .u8) r) 0)] 2
theorem w_m_pack_Int {b : (List Int)} {n0 : Int} {r : (List Int)}   (h : m_pack_Int b n0 = some r) : Spec Pg 63 [.own 1 0 0 b.length false, .int .i64 n0] [(0, .arr 1 (List.map (ci .u8) b) 0)] 1 (.own 1 1 0 r.length false) [(1, .arr 1 (List.map (ci .u8) r) 0)] 2 := by
  refine Spec.intro Go.Proofs.Try.func63 i63_ok (le_of_ble rfl) ?_
  show Wp Pg 14 1 i63_B ⟨argEnv [.own 1 0 0 b.length false, .int .i64 n0] i63_V, [], [(0, .arr 1 (List.map (ci .u8) b) 0)], 1⟩ (qf_63_v0 r)
  unfold m_pack_Int at h
  unfold i63_B
  refine weakP [.mov 0] ?_
  refine Wp.seq (regP (seqN (Wp.seq (Wp.reg ?_))))
  replace h := bndS h; obtain ⟨r0, g1, h⟩ := h
  replace h := retS h; subst h
  refine chunkF 9 (tab_cons (w_m_pack_Uint_v1 g1) (tab_nil _)) ?_
  refine lastT (tab_nil _) (seqN ?_)
  refine weakP [.kill [0, 1], .tidy] (Wp.ret ?_)
  exact finP
/-! funicular/vars.Put -/
noncomputable abbrev qf_19_v0 (r : (List Int)) : Ex → St → Prop := FinQ 0 [.tmp 4] (.own 1 0 0 r.length false) [(0, .arr 1 (List.map (ci .u8) r) 0)] 1
theorem w_m_vars_Put_l1_B {v : TVars} {r : (List Int)}   {rec_m_vars_Put_l1 : Int → (List Int) → Option (List Int)} (hrec_m_vars_Put_l1 : ∀ {v16 : Int} {b : (List Int)}, rec_m_vars_Put_l1 v16 b = some r → LWp Pg 34 0 i19_L0 ⟨[(0, .own 1 0 0 b.length false), (1, .bad), (3, .ptr 1 0), (4, .bad), (5, .bad), (6, .bad), (14, sl cs v.Names), (15, .int .i64 (v.Names.length : Int)), (16, .int .i64 v16), (17, .bad)], [], [(0, .arr 1 (List.map (ci .u8) b) 0), (1, .box [sl cs v.Names, sl (ci .i64) v.Vals])], 2⟩ (blockQ 0 (seqQ Pg 34 0 (.seq (.reg none i19_R8) .ret) (qf_19_v0 r)))) {v16 : Int} {b : (List Int)} (h : m_vars_Put_l1_B  v rec_m_vars_Put_l1 v16 b = some r) : LWp Pg 34 0 i19_L0 ⟨[(0, .own 1 0 0 b.length false), (1, .bad), (3, .ptr 1 0), (4, .bad), (5, .bad), (6, .bad), (14, sl cs v.Names), (15, .int .i64 (v.Names.length : Int)), (16, .int .i64 v16), (17, .bad)], [], [(0, .arr 1 (List.map (ci .u8) b) 0), (1, .box [sl cs v.Names, sl (ci .i64) v.Vals])], 2⟩ (blockQ 0 (seqQ Pg 34 0 (.seq (.reg none i19_R8) .ret) (qf_19_v0 r))) := by
  unfold m_vars_Put_l1_B at h
  refine LWp.stepC i19_L0.eq_1 ?_
  refine Wp.seq (regP (seqN (Wp.seq ?_)))
  replace h := ifS h; rcases h with ⟨g2, h⟩ | ⟨g2, h⟩
  · refine condTP (Wp.skip (seqN (Wp.seq (Wp.block (Wp.seq ?_)))))
    replace h := bndS h; obtain ⟨e, g3, h⟩ := h
    refine regP (seqN (Wp.seq (Wp.reg ?_)))
    replace h := bndS h; obtain ⟨r0_1, g4, h⟩ := h
    refine chunkF 4 (tab_cons (w_m_pack_Bytes g4) (tab_nil _)) ?_
    refine lastT (tab_nil _) (seqN (Wp.reg ?_))
    replace h := bndS h; obtain ⟨e_1, g5, h⟩ := h
    replace h := bndS h; obtain ⟨r0_2, g6, h⟩ := h
    refine chunkF 7 (tab_cons (w_m_pack_Int g6) (tab_nil _)) ?_
    refine lastT (tab_nil _) (blockN (seqN ?_))
    refine regP (loopN ?_)
    exact jumpL [.kill [5, 6, 17], .tidy] (hrec_m_vars_Put_l1 h)
  · replace h := retS h; subst h
    refine condFP (Wp.out (seqO (loopO (blockO (seqN (Wp.seq ?_))))))
    refine regP (seqN ?_)
    refine weakP [.kill [0, 3, 14, 15, 16, 17], .tidy] (Wp.ret ?_)
    exact finP
theorem w_m_vars_Put_l1 {v : TVars} {r : (List Int)}   : ∀ (n : Nat) {v16 : Int} {b : (List Int)}, m_vars_Put_l1  v n v16 b = some r → LWp Pg 34 0 i19_L0 ⟨[(0, .own 1 0 0 b.length false), (1, .bad), (3, .ptr 1 0), (4, .bad), (5, .bad), (6, .bad), (14, sl cs v.Names), (15, .int .i64 (v.Names.length : Int)), (16, .int .i64 v16), (17, .bad)], [], [(0, .arr 1 (List.map (ci .u8) b) 0), (1, .box [sl cs v.Names, sl (ci .i64) v.Vals])], 2⟩ (blockQ 0 (seqQ Pg 34 0 (.seq (.reg none i19_R8) .ret) (qf_19_v0 r))) := by
  intro n
  induction n with
  | zero => intro v16 b h; unfold m_vars_Put_l1 at h; cases h
  | succ n ih => intro v16 b h; unfold m_vars_Put_l1 at h; exact w_m_vars_Put_l1_B  ih h
theorem w_m_vars_Put {v : TVars} {r : (List Int)}   (h : m_vars_Put v = some r) : Spec Pg 19 [.nil, .agg [sl cs v.Names, sl (ci .i64) v.Vals]] [] 0 (.own 1 0 0 r.length false) [(0, .arr 1 (List.map (ci .u8) r) 0)] 1 := by
  refine Spec.intro Go.Proofs.Try.func19 i19_ok (le_of_ble rfl) ?_
  show Wp Pg 34 0 i19_B ⟨argEnv [.nil, .agg [sl cs v.Names, sl (ci .i64) v.Vals]] i19_V, [], [], 0⟩ (qf_19_v0 r)
  unfold m_vars_Put at h
  unfold i19_B
  refine weakP [] ?_
  refine Wp.seq (regP (seqN (Wp.seq (Wp.reg ?_))))
  replace h := bndS h; obtain ⟨r0, g1, h⟩ := h
  refine chunkF 6 (tab_cons (w_m_pack_Uint g1) (tab_nil _)) ?_
  refine lastT (tab_nil _) (seqN (Wp.seq (Wp.seq ?_)))
  refine regP (seqN (Wp.block (Wp.loop ?_)))
  exact jumpL [.kill [1, 4, 5, 6, 17], .tidy] (w_m_vars_Put_l1 _ h)
/-! funicular/funicularlaw09.light -/
noncomputable abbrev qf_12 (r : Bool) : Ex → St → Prop := FinQ 0 [.tmp 2] (.bool r) [] 0
theorem w_m_law09_light_l1_B {v : TVars} {r : Bool}   {rec_m_law09_light_l1 : Int → Option Bool} (hrec_m_law09_light_l1 : ∀ {i : Int}, rec_m_law09_light_l1 i = some r → LWp Pg 28 0 i12_L0 ⟨[(0, .bad), (1, .ptr 0 0), (2, .bad), (3, .int .i64 i), (13, .bad), (18, .bad), (27, .bad)], [], [(0, .box [sl cs v.Names, sl (ci .i64) v.Vals])], 1⟩ (blockQ 0 (seqQ Pg 28 0 (.seq (.reg none i12_R8) .ret) (qf_12 r)))) {i : Int} (h : m_law09_light_l1_B  v rec_m_law09_light_l1 i = some r) : LWp Pg 28 0 i12_L0 ⟨[(0, .bad), (1, .ptr 0 0), (2, .bad), (3, .int .i64 i), (13, .bad), (18, .bad), (27, .bad)], [], [(0, .box [sl cs v.Names, sl (ci .i64) v.Vals])], 1⟩ (blockQ 0 (seqQ Pg 28 0 (.seq (.reg none i12_R8) .ret) (qf_12 r))) := by
  unfold m_law09_light_l1_B at h
  refine LWp.stepC i12_L0.eq_1 ?_
  refine Wp.seq (Wp.seq (regP (seqN ?_)))
  replace h := ifS h; rcases h with ⟨g3, h⟩ | ⟨g3, h⟩
  · refine condTP (Wp.skip (seqN (Wp.seq (Wp.block (Wp.seq ?_)))))
    replace h := bndS h; obtain ⟨e, g4, h⟩ := h
    refine regP (seqN ?_)
    replace h := ifS h; rcases h with ⟨g5, h⟩ | ⟨g5, h⟩
    · replace h := retS h; subst h
      refine condTP (Wp.seq ?_)
      refine regP (seqN (Wp.ret (blockR (seqR (loopR (blockR (seqR ?_)))))))
      exact finP
    · refine condFP (Wp.skip (blockN (seqN ?_)))
      refine regP (loopN ?_)
      exact jumpL [.kill [18, 27]] (hrec_m_law09_light_l1 h)
  · replace h := retS h; subst h
    refine condFP (Wp.out (seqO (loopO (blockO (seqN (Wp.seq ?_))))))
    refine regP (seqN (Wp.ret ?_))
    exact finP
theorem w_m_law09_light_l1 {v : TVars} {r : Bool}   : ∀ (n : Nat) {i : Int}, m_law09_light_l1  v n i = some r → LWp Pg 28 0 i12_L0 ⟨[(0, .bad), (1, .ptr 0 0), (2, .bad), (3, .int .i64 i), (13, .bad), (18, .bad), (27, .bad)], [], [(0, .box [sl cs v.Names, sl (ci .i64) v.Vals])], 1⟩ (blockQ 0 (seqQ Pg 28 0 (.seq (.reg none i12_R8) .ret) (qf_12 r))) := by
  intro n
  induction n with
  | zero => intro i h; unfold m_law09_light_l1 at h; cases h
  | succ n ih => intro i h; unfold m_law09_light_l1 at h; exact w_m_law09_light_l1_B  ih h
theorem w_m_law09_light_k1 {v : TVars} {v13 : Bool} {r : Bool}   (h : m_law09_light_k1 v v13 = some r) : Wp Pg 28 0 (.cond (.t 13) (.seq (.reg none i12_R2) .ret) .skip) ⟨[(0, .bad), (1, .ptr 0 0), (2, .bad), (3, .bad), (13, .bool v13), (18, .bad), (27, .bad)], [], [(0, .box [sl cs v.Names, sl (ci .i64) v.Vals])], 1⟩ (seqQ Pg 28 0 (.seq (.seq (.reg none i12_R3) (.block 0 (.loop i12_L0))) (.seq (.reg none i12_R8) .ret)) (qf_12 r)) := by
  unfold m_law09_light_k1 at h
  replace h := ifS h; rcases h with ⟨g2, h⟩ | ⟨g2, h⟩
  · replace h := retS h; subst h
    refine condTP (Wp.seq ?_)
    refine regP (seqN (Wp.ret (seqR ?_)))
    exact finP
  · refine condFP (Wp.skip (seqN (Wp.seq (Wp.seq ?_))))
    refine regP (seqN (Wp.block (Wp.loop ?_)))
    exact jumpL [.kill [13]] (w_m_law09_light_l1 _ h)
theorem w_m_law09_light {v : TVars} {r : Bool}   (h : m_law09_light v = some r) : Spec Pg 12 [.agg [sl cs v.Names, sl (ci .i64) v.Vals]] [] 0 (.bool r) [] 0 := by
  refine Spec.intro Go.Proofs.Try.func12 i12_ok (le_of_ble rfl) ?_
  show Wp Pg 28 0 i12_B ⟨argEnv [.agg [sl cs v.Names, sl (ci .i64) v.Vals]] i12_V, [], [], 0⟩ (qf_12 r)
  unfold m_law09_light at h
  unfold i12_B
  refine weakP [] ?_
  refine Wp.seq (regP (seqN (Wp.seq (Wp.seq ?_))))
  replace h := ifS h; rcases h with ⟨g1, h⟩ | ⟨g1, h⟩
  · refine regP (seqN ?_)
    exact jumpK [.kill [0, 2, 3, 18, 27]] (w_m_law09_light_k1 h)
  · refine regP (seqN ?_)
    exact jumpK [.kill [0, 2, 3, 18, 27]] (w_m_law09_light_k1 h)
theorem w_m_law09_works {r : Bool} (h : m_law09_works = some r) : Spec Pg 13 [] [] 0 (.bool r) [] 0 := by
  obtain rfl := retS h
  exact m_law09_works_spec
/-! funicular/pack.Name -/
noncomputable abbrev qf_54 (r : Bool) : Ex → St → Prop := FinQ 0 [.tmp 2] (.bool r) [] 0
theorem w_m_pack_Name_k3 {s : ByteArray} {r : Bool}   (h : m_pack_Name_k3 s = some r) : Wp Pg 43 0 (.seq (.reg none i54_R8) .ret) ⟨[(0, .str s), (2, .bad), (3, .bad), (4, .bad), (5, .bad), (7, .bad), (8, .bad), (9, .bad), (10, .bad), (33, .bad)], [], [], 0⟩ (qf_54 r) := by
  unfold m_pack_Name_k3 at h
  refine Wp.seq ?_
  replace h := ifS h; rcases h with ⟨g8, h⟩ | ⟨g8, h⟩
  · replace h := retS h; subst h
    refine regP (seqN (Wp.ret ?_))
    exact finP
  · replace h := retS h; subst h
    refine regP (seqN (Wp.ret ?_))
    exact finP
theorem w_m_pack_Name_k2 {s : ByteArray} {v9 : Int} {v33 : Bool} {r : Bool} {rec_m_pack_Name_l1 : Int → Option Bool} (hrec_m_pack_Name_l1 : ∀ {v9 : Int}, rec_m_pack_Name_l1 v9 = some r → LWp Pg 43 0 i54_L0 ⟨[(0, .str s), (2, .bad), (3, .bad), (4, .bad), (5, .bad), (7, sl (ci .u8) (bytesI s)), (8, .int .i64 ((bytesI s).length : Int)), (9, .int .i64 v9), (10, .bad), (33, .bad)], [], [], 0⟩ (blockQ 0 (seqQ Pg 43 0 (.seq (.reg none i54_R8) .ret) (qf_54 r)))) (h : m_pack_Name_k2 rec_m_pack_Name_l1 v9 v33 = some r) : Wp Pg 43 0 (.cond (.t 33) (.seq (.reg none i54_R6) .ret) .skip) ⟨[(0, .str s), (2, .bad), (3, .bad), (4, .bad), (5, .bad), (7, sl (ci .u8) (bytesI s)), (8, .int .i64 ((bytesI s).length : Int)), (9, .int .i64 v9), (10, .bad), (33, .bool v33)], [], [], 0⟩ (blockQ 1 (seqQ Pg 43 0 (.reg none i54_R7) (loopQ Pg 43 0 i54_L0 (blockQ 0 (seqQ Pg 43 0 (.seq (.reg none i54_R8) .ret) (qf_54 r)))))) := by
  unfold m_pack_Name_k2 at h
  replace h := ifS h; rcases h with ⟨g7, h⟩ | ⟨g7, h⟩
  · replace h := retS h; subst h
    refine condTP (Wp.seq ?_)
    refine regP (seqN (Wp.ret (blockR (seqR (loopR (blockR (seqR ?_)))))))
    exact finP
  · refine condFP (Wp.skip (blockN (seqN ?_)))
    refine regP (loopN ?_)
    exact jumpL [.kill [33]] (hrec_m_pack_Name_l1 h)
theorem w_m_pack_Name_k1 {s : ByteArray} {v9 : Int} {e : Int} {letter : Bool} {r : Bool} {rec_m_pack_Name_l1 : Int → Option Bool} (hrec_m_pack_Name_l1 : ∀ {v9 : Int}, rec_m_pack_Name_l1 v9 = some r → LWp Pg 43 0 i54_L0 ⟨[(0, .str s), (2, .bad), (3, .bad), (4, .bad), (5, .bad), (7, sl (ci .u8) (bytesI s)), (8, .int .i64 ((bytesI s).length : Int)), (9, .int .i64 v9), (10, .bad), (33, .bad)], [], [], 0⟩ (blockQ 0 (seqQ Pg 43 0 (.seq (.reg none i54_R8) .ret) (qf_54 r)))) (h : m_pack_Name_k1 rec_m_pack_Name_l1 v9 e letter = some r) : Wp Pg 43 0 (.seq (.reg none i54_R5) (.cond (.t 33) (.seq (.reg none i54_R6) .ret) .skip)) ⟨[(0, .str s), (2, .bad), (3, .int .i64 v9), (4, .int .u8 e), (5, .bool letter), (7, sl (ci .u8) (bytesI s)), (8, .int .i64 ((bytesI s).length : Int)), (9, .int .i64 v9), (10, .bad), (33, .bad)], [], [], 0⟩ (blockQ 1 (seqQ Pg 43 0 (.reg none i54_R7) (loopQ Pg 43 0 i54_L0 (blockQ 0 (seqQ Pg 43 0 (.seq (.reg none i54_R8) .ret) (qf_54 r)))))) := by
  unfold m_pack_Name_k1 at h
  refine Wp.seq ?_
  replace h := ifS h; rcases h with ⟨g4, h⟩ | ⟨g4, h⟩
  · refine regP (seqN ?_)
    exact jumpK [.kill [3, 4, 5]] (w_m_pack_Name_k2 (s := s) hrec_m_pack_Name_l1 h)
  · replace h := ifS h; rcases h with ⟨g5, h⟩ | ⟨g5, h⟩
    · refine regP (seqN ?_)
      exact jumpK [.kill [3, 4, 5]] (w_m_pack_Name_k2 (s := s) hrec_m_pack_Name_l1 h)
    · replace h := ifS h; rcases h with ⟨g6, h⟩ | ⟨g6, h⟩
      · refine regP (seqN ?_)
        exact jumpK [.kill [3, 4, 5]] (w_m_pack_Name_k2 (s := s) hrec_m_pack_Name_l1 h)
      · refine regP (seqN ?_)
        exact jumpK [.kill [3, 4, 5]] (w_m_pack_Name_k2 (s := s) hrec_m_pack_Name_l1 h)
theorem w_m_pack_Name_l1_B {s : ByteArray} {r : Bool}   {rec_m_pack_Name_l1 : Int → Option Bool} (hrec_m_pack_Name_l1 : ∀ {v9 : Int}, rec_m_pack_Name_l1 v9 = some r → LWp Pg 43 0 i54_L0 ⟨[(0, .str s), (2, .bad), (3, .bad), (4, .bad), (5, .bad), (7, sl (ci .u8) (bytesI s)), (8, .int .i64 ((bytesI s).length : Int)), (9, .int .i64 v9), (10, .bad), (33, .bad)], [], [], 0⟩ (blockQ 0 (seqQ Pg 43 0 (.seq (.reg none i54_R8) .ret) (qf_54 r)))) {v9 : Int} (h : m_pack_Name_l1_B  s rec_m_pack_Name_l1 v9 = some r) : LWp Pg 43 0 i54_L0 ⟨[(0, .str s), (2, .bad), (3, .bad), (4, .bad), (5, .bad), (7, sl (ci .u8) (bytesI s)), (8, .int .i64 ((bytesI s).length : Int)), (9, .int .i64 v9), (10, .bad), (33, .bad)], [], [], 0⟩ (blockQ 0 (seqQ Pg 43 0 (.seq (.reg none i54_R8) .ret) (qf_54 r))) := by
  unfold m_pack_Name_l1_B at h
  refine LWp.stepC i54_L0.eq_1 ?_
  refine Wp.seq (regP (seqN (Wp.seq ?_)))
  replace h := ifS h; rcases h with ⟨g1, h⟩ | ⟨g1, h⟩
  · refine condTP (Wp.skip (seqN (Wp.seq (Wp.block (Wp.seq ?_)))))
    replace h := bndS h; obtain ⟨e, g2, h⟩ := h
    refine regP (seqN (Wp.seq ?_))
    replace h := ifS h; rcases h with ⟨g3, h⟩ | ⟨g3, h⟩
    · refine regP (seqN ?_)
      exact jumpK [.kill [10]] (w_m_pack_Name_k1 (s := s) hrec_m_pack_Name_l1 h)
    · refine regP (seqN ?_)
      exact jumpK [.kill [10]] (w_m_pack_Name_k1 (s := s) hrec_m_pack_Name_l1 h)
  · refine condFP (Wp.out (seqO (loopO (blockO (seqN ?_)))))
    exact jumpK [.kill [7, 8, 9, 10]] (w_m_pack_Name_k3 h)
theorem w_m_pack_Name_l1 {s : ByteArray} {r : Bool}   : ∀ (n : Nat) {v9 : Int}, m_pack_Name_l1  s n v9 = some r → LWp Pg 43 0 i54_L0 ⟨[(0, .str s), (2, .bad), (3, .bad), (4, .bad), (5, .bad), (7, sl (ci .u8) (bytesI s)), (8, .int .i64 ((bytesI s).length : Int)), (9, .int .i64 v9), (10, .bad), (33, .bad)], [], [], 0⟩ (blockQ 0 (seqQ Pg 43 0 (.seq (.reg none i54_R8) .ret) (qf_54 r))) := by
  intro n
  induction n with
  | zero => intro v9 h; unfold m_pack_Name_l1 at h; cases h
  | succ n ih => intro v9 h; unfold m_pack_Name_l1 at h; exact w_m_pack_Name_l1_B  ih h
theorem w_m_pack_Name {s : ByteArray} {r : Bool}   (h : m_pack_Name s = some r) : Spec Pg 54 [.str s] [] 0 (.bool r) [] 0 := by
  refine Spec.intro Go.Proofs.Try.func54 i54_ok (le_of_ble rfl) ?_
  show Wp Pg 43 0 i54_B ⟨argEnv [.str s] i54_V, [], [], 0⟩ (qf_54 r)
  unfold m_pack_Name at h
  unfold i54_B
  refine weakP [] ?_
  refine Wp.seq (regP (seqN (Wp.seq (Wp.seq ?_))))
  refine regP (seqN (Wp.block (Wp.loop ?_)))
  exact jumpL [.kill [2, 3, 4, 5, 10, 33], .tidy] (w_m_pack_Name_l1 _ h)
/-! funicular/vars.Check -/
noncomputable abbrev qf_14 (r : Int) : Ex → St → Prop := FinQ 0 [.tmp 2] (.int .i64 r) [] 0
theorem w_m_vars_Check_k2 {v : TVars} {v21 : Int} {v48 : Bool} {r : Int} {rec_m_vars_Check_l1 : Int → Option Int} (hrec_m_vars_Check_l1 : ∀ {v21 : Int}, rec_m_vars_Check_l1 v21 = some r → LWp Pg 50 0 i14_L0 ⟨[(0, .bad), (1, .ptr 0 0), (2, .bad), (3, .bad), (4, .bad), (5, .bad), (13, .bad), (19, sl cs v.Names), (20, .int .i64 (v.Names.length : Int)), (21, .int .i64 v21), (22, .bad), (36, .bad), (48, .bad)], [], [(0, .box [sl cs v.Names, sl (ci .i64) v.Vals])], 1⟩ (blockQ 1 (seqQ Pg 50 0 (.seq (.reg none i14_R13) .ret) (qf_14 r)))) (h : m_vars_Check_k2 rec_m_vars_Check_l1 v21 v48 = some r) : Wp Pg 50 0 (.cond (.t 48) (.seq (.reg none i14_R11) .ret) .skip) ⟨[(0, .bad), (1, .ptr 0 0), (2, .bad), (3, .bad), (4, .bad), (5, .bad), (13, .bad), (19, sl cs v.Names), (20, .int .i64 (v.Names.length : Int)), (21, .int .i64 v21), (22, .bad), (36, .bad), (48, .bool v48)], [], [(0, .box [sl cs v.Names, sl (ci .i64) v.Vals])], 1⟩ (blockQ 2 (seqQ Pg 50 0 (.reg none i14_R12) (loopQ Pg 50 0 i14_L0 (blockQ 1 (seqQ Pg 50 0 (.seq (.reg none i14_R13) .ret) (qf_14 r)))))) := by
  unfold m_vars_Check_k2 at h
  replace h := ifS h; rcases h with ⟨g11, h⟩ | ⟨g11, h⟩
  · replace h := retS h; subst h
    refine condTP (Wp.seq ?_)
    refine regP (seqN (Wp.ret (blockR (seqR (loopR (blockR (seqR ?_)))))))
    exact finP
  · refine condFP (Wp.skip (blockN (seqN ?_)))
    refine regP (loopN ?_)
    exact jumpL [.kill [48]] (hrec_m_vars_Check_l1 h)
theorem w_m_vars_Check_k1 {v : TVars} {v21 : Int} {e : ByteArray} {v36 : Bool} {r : Int} {rec_m_vars_Check_l1 : Int → Option Int} (hrec_m_vars_Check_l1 : ∀ {v21 : Int}, rec_m_vars_Check_l1 v21 = some r → LWp Pg 50 0 i14_L0 ⟨[(0, .bad), (1, .ptr 0 0), (2, .bad), (3, .bad), (4, .bad), (5, .bad), (13, .bad), (19, sl cs v.Names), (20, .int .i64 (v.Names.length : Int)), (21, .int .i64 v21), (22, .bad), (36, .bad), (48, .bad)], [], [(0, .box [sl cs v.Names, sl (ci .i64) v.Vals])], 1⟩ (blockQ 1 (seqQ Pg 50 0 (.seq (.reg none i14_R13) .ret) (qf_14 r)))) (h : m_vars_Check_k1 rec_m_vars_Check_l1 v v21 e v36 = some r) : Wp Pg 50 0 (.cond (.t 36) (.seq (.reg none i14_R9) .ret) .skip) ⟨[(0, .bad), (1, .ptr 0 0), (2, .bad), (3, .int .i64 v21), (4, .str e), (5, .bad), (13, .bad), (19, sl cs v.Names), (20, .int .i64 (v.Names.length : Int)), (21, .int .i64 v21), (22, .bad), (36, .bool v36), (48, .bad)], [], [(0, .box [sl cs v.Names, sl (ci .i64) v.Vals])], 1⟩ (seqQ Pg 50 0 (.seq (.reg none i14_R10) (.cond (.t 48) (.seq (.reg none i14_R11) .ret) .skip)) (blockQ 2 (seqQ Pg 50 0 (.reg none i14_R12) (loopQ Pg 50 0 i14_L0 (blockQ 1 (seqQ Pg 50 0 (.seq (.reg none i14_R13) .ret) (qf_14 r))))))) := by
  unfold m_vars_Check_k1 at h
  replace h := ifS h; rcases h with ⟨g8, h⟩ | ⟨g8, h⟩
  · replace h := retS h; subst h
    refine condTP (Wp.seq ?_)
    refine regP (seqN (Wp.ret (seqR (blockR (seqR (loopR (blockR (seqR ?_))))))))
    exact finP
  · refine condFP (Wp.skip (seqN (Wp.seq ?_)))
    replace h := ifS h; rcases h with ⟨g9, h⟩ | ⟨g9, h⟩
    · replace h := bndS h; obtain ⟨e_1, g10, h⟩ := h
      refine regP (seqN ?_)
      exact jumpK [.kill [3, 4, 36]] (w_m_vars_Check_k2 (v := v) hrec_m_vars_Check_l1 h)
    · refine regP (seqN ?_)
      exact jumpK [.kill [3, 4, 36]] (w_m_vars_Check_k2 (v := v) hrec_m_vars_Check_l1 h)
theorem w_m_vars_Check_l1_B {v : TVars} {r : Int}   {rec_m_vars_Check_l1 : Int → Option Int} (hrec_m_vars_Check_l1 : ∀ {v21 : Int}, rec_m_vars_Check_l1 v21 = some r → LWp Pg 50 0 i14_L0 ⟨[(0, .bad), (1, .ptr 0 0), (2, .bad), (3, .bad), (4, .bad), (5, .bad), (13, .bad), (19, sl cs v.Names), (20, .int .i64 (v.Names.length : Int)), (21, .int .i64 v21), (22, .bad), (36, .bad), (48, .bad)], [], [(0, .box [sl cs v.Names, sl (ci .i64) v.Vals])], 1⟩ (blockQ 1 (seqQ Pg 50 0 (.seq (.reg none i14_R13) .ret) (qf_14 r)))) {v21 : Int} (h : m_vars_Check_l1_B  v rec_m_vars_Check_l1 v21 = some r) : LWp Pg 50 0 i14_L0 ⟨[(0, .bad), (1, .ptr 0 0), (2, .bad), (3, .bad), (4, .bad), (5, .bad), (13, .bad), (19, sl cs v.Names), (20, .int .i64 (v.Names.length : Int)), (21, .int .i64 v21), (22, .bad), (36, .bad), (48, .bad)], [], [(0, .box [sl cs v.Names, sl (ci .i64) v.Vals])], 1⟩ (blockQ 1 (seqQ Pg 50 0 (.seq (.reg none i14_R13) .ret) (qf_14 r))) := by
  unfold m_vars_Check_l1_B at h
  refine LWp.stepC i14_L0.eq_1 ?_
  refine Wp.seq (regP (seqN (Wp.seq ?_)))
  replace h := ifS h; rcases h with ⟨g3, h⟩ | ⟨g3, h⟩
  · refine condTP (Wp.skip (seqN (Wp.seq (Wp.block (Wp.seq ?_)))))
    replace h := bndS h; obtain ⟨e, g4, h⟩ := h
    refine regP (seqN (Wp.seq (Wp.seq (Wp.reg ?_))))
    replace h := bndS h; obtain ⟨r0, g5, h⟩ := h
    refine chunkT 2 (tab_cons (w_m_pack_Name g5) (tab_nil _)) ?_
    replace h := ifS h; rcases h with ⟨g6, h⟩ | ⟨g6, h⟩
    · replace h := ifS h; rcases h with ⟨g7, h⟩ | ⟨g7, h⟩
      · refine lastT (tab_nil _) (seqN ?_)
        exact jumpK [.kill [22]] (w_m_vars_Check_k1 hrec_m_vars_Check_l1 h)
      · refine lastT (tab_nil _) (seqN ?_)
        exact jumpK [.kill [22]] (w_m_vars_Check_k1 hrec_m_vars_Check_l1 h)
    · refine lastT (tab_nil _) (seqN ?_)
      exact jumpK [.kill [22]] (w_m_vars_Check_k1 hrec_m_vars_Check_l1 h)
  · replace h := retS h; subst h
    refine condFP (Wp.out (seqO (loopO (blockO (seqN (Wp.seq ?_))))))
    refine regP (seqN (Wp.ret ?_))
    exact finP
theorem w_m_vars_Check_l1 {v : TVars} {r : Int}   : ∀ (n : Nat) {v21 : Int}, m_vars_Check_l1  v n v21 = some r → LWp Pg 50 0 i14_L0 ⟨[(0, .bad), (1, .ptr 0 0), (2, .bad), (3, .bad), (4, .bad), (5, .bad), (13, .bad), (19, sl cs v.Names), (20, .int .i64 (v.Names.length : Int)), (21, .int .i64 v21), (22, .bad), (36, .bad), (48, .bad)], [], [(0, .box [sl cs v.Names, sl (ci .i64) v.Vals])], 1⟩ (blockQ 1 (seqQ Pg 50 0 (.seq (.reg none i14_R13) .ret) (qf_14 r))) := by
  intro n
  induction n with
  | zero => intro v21 h; unfold m_vars_Check_l1 at h; cases h
  | succ n ih => intro v21 h; unfold m_vars_Check_l1 at h; exact w_m_vars_Check_l1_B  ih h
theorem w_m_vars_Check {v : TVars} {r : Int}   (h : m_vars_Check v = some r) : Spec Pg 14 [.agg [sl cs v.Names, sl (ci .i64) v.Vals]] [] 0 (.int .i64 r) [] 0 := by
  refine Spec.intro Go.Proofs.Try.func14 i14_ok (le_of_ble rfl) ?_
  show Wp Pg 50 0 i14_B ⟨argEnv [.agg [sl cs v.Names, sl (ci .i64) v.Vals]] i14_V, [], [], 0⟩ (qf_14 r)
  unfold m_vars_Check at h
  unfold i14_B
  refine weakP [] ?_
  refine Wp.seq (regP (seqN (Wp.seq (Wp.block (Wp.seq ?_)))))
  refine regP (seqN ?_)
  replace h := ifS h; rcases h with ⟨g1, h⟩ | ⟨g1, h⟩
  · replace h := retS h; subst h
    refine condTP (Wp.seq ?_)
    refine regP (seqN (Wp.ret (blockR (seqR ?_))))
    exact finP
  · refine condFP (Wp.seq ?_)
    refine regP (seqN ?_)
    replace h := ifS h; rcases h with ⟨g2, h⟩ | ⟨g2, h⟩
    · replace h := retS h; subst h
      refine condTP (Wp.seq ?_)
      refine regP (seqN (Wp.ret (blockR (seqR ?_))))
      exact finP
    · refine condFP (Wp.skip (blockN (seqN (Wp.seq (Wp.seq ?_)))))
      refine regP (seqN (Wp.block (Wp.loop ?_)))
      exact jumpL [.kill [0, 2, 3, 4, 5, 13, 22, 36, 48]] (w_m_vars_Check_l1 _ h)
/-! funicular/funicularref02.Name -/
noncomputable abbrev qf_55 (r : Bool) : Ex → St → Prop := FinQ 0 [.tmp 2] (.bool r) [] 0
theorem w_m_ref02_Name_k4 {s : ByteArray} {i : Int} {v50 : Bool} {r : Bool} {rec_m_ref02_Name_l1 : Int → Option Bool} (hrec_m_ref02_Name_l1 : ∀ {i : Int}, rec_m_ref02_Name_l1 i = some r → LWp Pg 51 0 i55_L0 ⟨[(0, .str s), (2, .bad), (3, .int .i64 i), (4, .bad), (5, .bad), (18, .bad), (22, .bad), (50, .bad)], [], [], 0⟩ (blockQ 0 (seqQ Pg 51 0 (.seq (.reg none i55_R10) .ret) (qf_55 r)))) (h : m_ref02_Name_k4 rec_m_ref02_Name_l1 i v50 = some r) : Wp Pg 51 0 (.cond (.t 50) (.seq (.reg none i55_R8) .ret) .skip) ⟨[(0, .str s), (2, .bad), (3, .int .i64 i), (4, .bad), (5, .bad), (18, .bad), (22, .bad), (50, .bool v50)], [], [], 0⟩ (blockQ 1 (seqQ Pg 51 0 (.reg none i55_R9) (loopQ Pg 51 0 i55_L0 (blockQ 0 (seqQ Pg 51 0 (.seq (.reg none i55_R10) .ret) (qf_55 r)))))) := by
  unfold m_ref02_Name_k4 at h
  replace h := ifS h; rcases h with ⟨g11, h⟩ | ⟨g11, h⟩
  · replace h := retS h; subst h
    refine condTP (Wp.seq ?_)
    refine regP (seqN (Wp.ret (blockR (seqR (loopR (blockR (seqR ?_)))))))
    exact finP
  · refine condFP (Wp.skip (blockN (seqN ?_)))
    refine regP (loopN ?_)
    exact jumpL [.kill [50]] (hrec_m_ref02_Name_l1 h)
theorem w_m_ref02_Name_k3 {s : ByteArray} {i : Int} {digit : Bool} {letter : Bool} {r : Bool} {rec_m_ref02_Name_l1 : Int → Option Bool} (hrec_m_ref02_Name_l1 : ∀ {i : Int}, rec_m_ref02_Name_l1 i = some r → LWp Pg 51 0 i55_L0 ⟨[(0, .str s), (2, .bad), (3, .int .i64 i), (4, .bad), (5, .bad), (18, .bad), (22, .bad), (50, .bad)], [], [], 0⟩ (blockQ 0 (seqQ Pg 51 0 (.seq (.reg none i55_R10) .ret) (qf_55 r)))) (h : m_ref02_Name_k3 rec_m_ref02_Name_l1 i digit letter = some r) : Wp Pg 51 0 (.seq (.reg none i55_R7) (.cond (.t 50) (.seq (.reg none i55_R8) .ret) .skip)) ⟨[(0, .str s), (2, .bad), (3, .int .i64 i), (4, .bool digit), (5, .bool letter), (18, .bad), (22, .bad), (50, .bad)], [], [], 0⟩ (blockQ 1 (seqQ Pg 51 0 (.reg none i55_R9) (loopQ Pg 51 0 i55_L0 (blockQ 0 (seqQ Pg 51 0 (.seq (.reg none i55_R10) .ret) (qf_55 r)))))) := by
  unfold m_ref02_Name_k3 at h
  refine Wp.seq ?_
  replace h := ifS h; rcases h with ⟨g10, h⟩ | ⟨g10, h⟩
  · refine regP (seqN ?_)
    exact jumpK [.kill [4, 5]] (w_m_ref02_Name_k4 (s := s) hrec_m_ref02_Name_l1 h)
  · refine regP (seqN ?_)
    exact jumpK [.kill [4, 5]] (w_m_ref02_Name_k4 (s := s) hrec_m_ref02_Name_l1 h)
theorem w_m_ref02_Name_k2 {s : ByteArray} {i : Int} {digit : Bool} {r : Bool} {rec_m_ref02_Name_l1 : Int → Option Bool} (hrec_m_ref02_Name_l1 : ∀ {i : Int}, rec_m_ref02_Name_l1 i = some r → LWp Pg 51 0 i55_L0 ⟨[(0, .str s), (2, .bad), (3, .int .i64 i), (4, .bad), (5, .bad), (18, .bad), (22, .bad), (50, .bad)], [], [], 0⟩ (blockQ 0 (seqQ Pg 51 0 (.seq (.reg none i55_R10) .ret) (qf_55 r)))) (h : m_ref02_Name_k2 rec_m_ref02_Name_l1 s i digit = some r) : Wp Pg 51 0 (.seq (.reg none i55_R6) (.seq (.reg none i55_R7) (.cond (.t 50) (.seq (.reg none i55_R8) .ret) .skip))) ⟨[(0, .str s), (2, .bad), (3, .int .i64 i), (4, .bool digit), (5, .bad), (18, .bad), (22, .bad), (50, .bad)], [], [], 0⟩ (blockQ 1 (seqQ Pg 51 0 (.reg none i55_R9) (loopQ Pg 51 0 i55_L0 (blockQ 0 (seqQ Pg 51 0 (.seq (.reg none i55_R10) .ret) (qf_55 r)))))) := by
  unfold m_ref02_Name_k2 at h
  refine Wp.seq ?_
  replace h := bndS h; obtain ⟨c_2, g8, h⟩ := h
  replace h := ifS h; rcases h with ⟨g9, h⟩ | ⟨g9, h⟩
  · refine regP (seqN ?_)
    exact jumpK [] (w_m_ref02_Name_k3 (s := s) hrec_m_ref02_Name_l1 h)
  · refine regP (seqN ?_)
    exact jumpK [] (w_m_ref02_Name_k3 (s := s) hrec_m_ref02_Name_l1 h)
theorem w_m_ref02_Name_l1_B {s : ByteArray} {r : Bool}   {rec_m_ref02_Name_l1 : Int → Option Bool} (hrec_m_ref02_Name_l1 : ∀ {i : Int}, rec_m_ref02_Name_l1 i = some r → LWp Pg 51 0 i55_L0 ⟨[(0, .str s), (2, .bad), (3, .int .i64 i), (4, .bad), (5, .bad), (18, .bad), (22, .bad), (50, .bad)], [], [], 0⟩ (blockQ 0 (seqQ Pg 51 0 (.seq (.reg none i55_R10) .ret) (qf_55 r)))) {i : Int} (h : m_ref02_Name_l1_B  s rec_m_ref02_Name_l1 i = some r) : LWp Pg 51 0 i55_L0 ⟨[(0, .str s), (2, .bad), (3, .int .i64 i), (4, .bad), (5, .bad), (18, .bad), (22, .bad), (50, .bad)], [], [], 0⟩ (blockQ 0 (seqQ Pg 51 0 (.seq (.reg none i55_R10) .ret) (qf_55 r))) := by
  unfold m_ref02_Name_l1_B at h
  refine LWp.stepC i55_L0.eq_1 ?_
  refine Wp.seq (Wp.seq (regP (seqN ?_)))
  replace h := ifS h; rcases h with ⟨g5, h⟩ | ⟨g5, h⟩
  · refine condTP (Wp.skip (seqN (Wp.seq (Wp.block (Wp.seq ?_)))))
    replace h := bndS h; obtain ⟨c_1, g6, h⟩ := h
    replace h := ifS h; rcases h with ⟨g7, h⟩ | ⟨g7, h⟩
    · refine regP (seqN ?_)
      exact jumpK [.kill [22]] (w_m_ref02_Name_k2 hrec_m_ref02_Name_l1 h)
    · refine regP (seqN ?_)
      exact jumpK [.kill [22]] (w_m_ref02_Name_k2 hrec_m_ref02_Name_l1 h)
  · replace h := retS h; subst h
    refine condFP (Wp.out (seqO (loopO (blockO (seqN (Wp.seq ?_))))))
    refine regP (seqN (Wp.ret ?_))
    exact finP
theorem w_m_ref02_Name_l1 {s : ByteArray} {r : Bool}   : ∀ (n : Nat) {i : Int}, m_ref02_Name_l1  s n i = some r → LWp Pg 51 0 i55_L0 ⟨[(0, .str s), (2, .bad), (3, .int .i64 i), (4, .bad), (5, .bad), (18, .bad), (22, .bad), (50, .bad)], [], [], 0⟩ (blockQ 0 (seqQ Pg 51 0 (.seq (.reg none i55_R10) .ret) (qf_55 r))) := by
  intro n
  induction n with
  | zero => intro i h; unfold m_ref02_Name_l1 at h; cases h
  | succ n ih => intro i h; unfold m_ref02_Name_l1 at h; exact w_m_ref02_Name_l1_B  ih h
theorem w_m_ref02_Name_k1 {s : ByteArray} {v18 : Bool} {r : Bool}   (h : m_ref02_Name_k1 s v18 = some r) : Wp Pg 51 0 (.cond (.t 18) (.seq (.reg none i55_R2) .ret) .skip) ⟨[(0, .str s), (2, .bad), (3, .bad), (4, .bad), (5, .bad), (18, .bool v18), (22, .bad), (50, .bad)], [], [], 0⟩ (seqQ Pg 51 0 (.seq (.seq (.reg none i55_R3) (.block 0 (.loop i55_L0))) (.seq (.reg none i55_R10) .ret)) (qf_55 r)) := by
  unfold m_ref02_Name_k1 at h
  replace h := ifS h; rcases h with ⟨g4, h⟩ | ⟨g4, h⟩
  · replace h := retS h; subst h
    refine condTP (Wp.seq ?_)
    refine regP (seqN (Wp.ret (seqR ?_)))
    exact finP
  · refine condFP (Wp.skip (seqN (Wp.seq (Wp.seq ?_))))
    refine regP (seqN (Wp.block (Wp.loop ?_)))
    exact jumpL [.kill [18]] (w_m_ref02_Name_l1 _ h)
theorem w_m_ref02_Name {s : ByteArray} {r : Bool}   (h : m_ref02_Name s = some r) : Spec Pg 55 [.str s] [] 0 (.bool r) [] 0 := by
  refine Spec.intro Go.Proofs.Try.func55 i55_ok (le_of_ble rfl) ?_
  show Wp Pg 51 0 i55_B ⟨argEnv [.str s] i55_V, [], [], 0⟩ (qf_55 r)
  unfold m_ref02_Name at h
  unfold i55_B
  refine weakP [] ?_
  refine Wp.seq (regP (seqN (Wp.seq (Wp.seq ?_))))
  replace h := ifS h; rcases h with ⟨g1, h⟩ | ⟨g1, h⟩
  · refine regP (seqN ?_)
    exact jumpK [.kill [2, 3, 4, 5, 22, 50]] (w_m_ref02_Name_k1 h)
  · replace h := ifS h; rcases h with ⟨g2, h⟩ | ⟨g2, h⟩
    · refine regP (seqN ?_)
      exact jumpK [.kill [2, 3, 4, 5, 22, 50]] (w_m_ref02_Name_k1 h)
    · replace h := bndS h; obtain ⟨c, g3, h⟩ := h
      refine regP (seqN ?_)
      exact jumpK [.kill [2, 3, 4, 5, 22, 50]] (w_m_ref02_Name_k1 h)
end Go.Proofs.Ytjhnlgelcfplaaa.R
