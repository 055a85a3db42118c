/- The program's functions answer what the models answer: 1. -/
import Derived.Test.YtefjblgmnoheiaaMW0
set_option maxRecDepth 100000
set_option maxHeartbeats 1600000
set_option linter.unusedVariables false
set_option linter.unusedSimpArgs false
set_option linter.defProp false
noncomputable section
namespace Go.Proofs.Ytefjblgmnoheiaa.R
open Go Nat
/-! funicular/pack.Uint -/
noncomputable abbrev qf_96_v1 (r : (List Int)) : Ex → St → Prop := FinQ 1 [.tmp 4] (.own 1 1 0 r.length false) [(1, .arr 1 (List.map (ci .u8) r) 0)] 2
noncomputable abbrev H_m_pack_Uint_v1_l1  (rec0 : Int → (List Int) → Option (List Int)) (r : (List Int)) : Prop := ∀ {n0_1 : Int} {b_1 : (List Int)}, rec0 n0_1 b_1 = some r → LWp Pg 20 1 i96_L0 ⟨[(0, .own 1 1 0 b_1.length false), (1, .int .u64 n0_1), (4, .bad), (6, .bad)], [], [(1, .arr 1 (List.map (ci .u8) b_1) 0)], 2⟩ (blockQ 0 (seqQ Pg 20 1 (.seq (.reg none i96_R4) .ret) (qf_96_v1 r)))
theorem w_m_pack_Uint_v1_k1 {n0_2 : Int} {b_2 : (List Int)} {r : (List Int)}   (h : m_pack_Uint_v1_k1 n0_2 b_2 = some r) : Wp Pg 20 1 (.seq (.reg none i96_R4) .ret) ⟨[(0, .own 1 1 0 b_2.length false), (1, .int .u64 n0_2), (4, .bad), (6, .bad)], [], [(1, .arr 1 (List.map (ci .u8) b_2) 0)], 2⟩ (qf_96_v1 r) := by
  unfold m_pack_Uint_v1_k1 at h
  refine Wp.seq ?_
  replace h := reqS h; obtain ⟨g3, h⟩ := h
  replace h := retS h; subst h
  refine regP (seqN (Wp.ret ?_))
  exact finW [.kill [0, 1], .tidy]
theorem w_m_pack_Uint_v1_l1_B  {r : (List Int)}   {rec_m_pack_Uint_v1_l1 : Int → (List Int) → Option (List Int)} (hrec_m_pack_Uint_v1_l1 : H_m_pack_Uint_v1_l1  rec_m_pack_Uint_v1_l1 r) {n0_1 : Int} {b_1 : (List Int)} (h : m_pack_Uint_v1_l1_B   rec_m_pack_Uint_v1_l1 n0_1 b_1 = some r) : LWp Pg 20 1 i96_L0 ⟨[(0, .own 1 1 0 b_1.length false), (1, .int .u64 n0_1), (4, .bad), (6, .bad)], [], [(1, .arr 1 (List.map (ci .u8) b_1) 0)], 2⟩ (blockQ 0 (seqQ Pg 20 1 (.seq (.reg none i96_R4) .ret) (qf_96_v1 r))) := by
  unfold m_pack_Uint_v1_l1_B at h
  refine LWp.stepC i96_L0.eq_1 ?_
  refine Wp.seq (Wp.seq (regP (seqN ?_)))
  replace h := ifS h; rcases h with ⟨g1, h⟩ | ⟨g1, h⟩
  · refine condTP (Wp.skip (seqN (Wp.block (Wp.seq ?_))))
    replace h := reqS h; obtain ⟨g2, h⟩ := h
    refine regP (seqN ?_)
    refine regP (blockN (loopN ?_))
    exact jumpL [.kill [6], .tidy] (hrec_m_pack_Uint_v1_l1 h)
  · refine condFP (Wp.out (seqO (loopO (blockO (seqN ?_)))))
    exact jumpK [.kill [6]] (w_m_pack_Uint_v1_k1 h)
theorem w_m_pack_Uint_v1_l1  {r : (List Int)}   : ∀ (n : Nat), H_m_pack_Uint_v1_l1  (m_pack_Uint_v1_l1   n) r := by
  intro n
  induction n with
  | zero => intro n0_1 b_1 h; unfold m_pack_Uint_v1_l1 at h; cases h
  | succ n ih => intro n0_1 b_1 h; unfold m_pack_Uint_v1_l1 at h; exact w_m_pack_Uint_v1_l1_B  ih h
theorem w_m_pack_Uint_v1 {b : (List Int)} {n0 : Int} {r : (List Int)}   (h : m_pack_Uint_v1 b n0 = some r) : Spec Pg 96 [.own 1 0 0 b.length false, .int .u64 n0] [(0, .arr 1 (List.map (ci .u8) b) 0)] 1 (.own 1 1 0 r.length false) [(1, .arr 1 (List.map (ci .u8) r) 0)] 2 := by
  refine Spec.intro Try.func96 i96_ok (le_of_ble rfl) ?_
  show Wp Pg 20 1 i96_B ⟨argEnv _ i96_V, [], _, _⟩ (qf_96_v1 r)
  unfold m_pack_Uint_v1 at h
  unfold i96_B
  refine weakP [.mov 0] ?_
  refine Wp.seq (regP (seqN (Wp.seq (Wp.block (Wp.loop ?_)))))
  exact jumpL [.kill [4, 6]] (w_m_pack_Uint_v1_l1 _ h)
/-! funicular/post.number -/
noncomputable abbrev qf_74_v0 (l : (List Int)) (r : (List Int)) : Ex → St → Prop := FinQ 1 [.tmp 4] (.own 1 1 0 r.length false) [(0, .arr 1 (List.map (ci .i64) l) 0), (1, .arr 1 (List.map (ci .u8) r) 0)] 2
noncomputable abbrev H_m_post_number_l1 (l : (List Int)) (rec0 : Int → (List Int) → Option (List Int)) (r : (List Int)) : Prop := ∀ {v9 : Int} {b : (List Int)}, rec0 v9 b = some r → LWp Pg 19 1 i74_L0 ⟨[(0, .own 1 1 0 b.length false), (1, .bad), (4, .bad), (6, .bad), (7, .own 1 0 0 l.length true), (8, .int .i64 ((l.length : Nat) : Int)), (9, .int .i64 v9), (10, .bad)], [], [(0, .arr 1 (List.map (ci .i64) l) 0), (1, .arr 1 (List.map (ci .u8) b) 0)], 2⟩ (blockQ 0 (seqQ Pg 19 1 (.seq (.reg none i74_R6) .ret) (qf_74_v0 l r)))
theorem w_m_post_number_l1_B {l : (List Int)} {r : (List Int)}   {rec_m_post_number_l1 : Int → (List Int) → Option (List Int)} (hrec_m_post_number_l1 : H_m_post_number_l1 l rec_m_post_number_l1 r) {v9 : Int} {b : (List Int)} (h : m_post_number_l1_B  l rec_m_post_number_l1 v9 b = some r) : LWp Pg 19 1 i74_L0 ⟨[(0, .own 1 1 0 b.length false), (1, .bad), (4, .bad), (6, .bad), (7, .own 1 0 0 l.length true), (8, .int .i64 ((l.length : Nat) : Int)), (9, .int .i64 v9), (10, .bad)], [], [(0, .arr 1 (List.map (ci .i64) l) 0), (1, .arr 1 (List.map (ci .u8) b) 0)], 2⟩ (blockQ 0 (seqQ Pg 19 1 (.seq (.reg none i74_R6) .ret) (qf_74_v0 l r))) := by
  unfold m_post_number_l1_B at h
  refine LWp.stepC i74_L0.eq_1 ?_
  refine Wp.seq (regP (seqN (Wp.seq ?_)))
  replace h := ifS h; rcases h with ⟨g1, h⟩ | ⟨g1, h⟩
  · refine condTP (Wp.skip (seqN (Wp.seq (Wp.block (Wp.seq ?_)))))
    replace h := bndS h; obtain ⟨e, g2, h⟩ := h
    have := ias_ownL (n := 1) (id := 0) (ex := true) (k := .i64) g2 rfl
    have := ld_get (c := (ci .i64)) g2
    refine regP (seqN (Wp.reg ?_))
    replace h := bndS h; obtain ⟨r0, g3, h⟩ := h
    refine chunkF 4 (tab_cons (w_m_pack_Uint_v1 g3) (tab_nil _)) ?_
    refine lastT (tab_nil _) (blockN (seqN ?_))
    refine regP (loopN ?_)
    exact jumpL [.kill [6, 10], .tidy] (hrec_m_post_number_l1 h)
  · replace h := retS h; subst h
    refine condFP (Wp.out (seqO (loopO (blockO (seqN (Wp.seq ?_))))))
    refine regP (seqN (Wp.ret ?_))
    exact finW [.kill [0, 7, 8, 9, 10], .tidy]
theorem w_m_post_number_l1 {l : (List Int)} {r : (List Int)}   : ∀ (n : Nat), H_m_post_number_l1 l (m_post_number_l1  l n) r := by
  intro n
  induction n with
  | zero => intro v9 b h; unfold m_post_number_l1 at h; cases h
  | succ n ih => intro v9 b h; unfold m_post_number_l1 at h; exact w_m_post_number_l1_B  ih h
theorem w_m_post_number {l : (List Int)} {r : (List Int)}   (h : m_post_number l = some r) : Spec Pg 74 [.nil, .own 1 0 0 l.length true] [(0, .arr 1 (List.map (ci .i64) l) 0)] 1 (.own 1 1 0 r.length false) [(0, .arr 1 (List.map (ci .i64) l) 0), (1, .arr 1 (List.map (ci .u8) r) 0)] 2 := by
  refine Spec.intro Try.func74 i74_ok (le_of_ble rfl) ?_
  show Wp Pg 19 1 i74_B ⟨argEnv _ i74_V, [], _, _⟩ (qf_74_v0 l r)
  unfold m_post_number at h
  unfold i74_B
  refine weakP [] ?_
  refine Wp.seq (regP (seqN (Wp.seq (Wp.seq ?_))))
  refine regP (seqN (Wp.block (Wp.loop ?_)))
  exact jumpL [.kill [1, 4, 6, 10], .at 0 (.virt 1), .tidy] (w_m_post_number_l1 _ h)
/-! funicular/post.number -/
noncomputable abbrev qf_74_v1 (l : (List Int)) (r : (List Int)) : Ex → St → Prop := FinQ 2 [.tmp 4] (.own 1 2 0 r.length false) [(1, .arr 1 (List.map (ci .i64) l) 0), (2, .arr 1 (List.map (ci .u8) r) 0)] 3
noncomputable abbrev H_m_post_number_v1_l1 (l : (List Int)) (rec0 : Int → (List Int) → Option (List Int)) (r : (List Int)) : Prop := ∀ {v9 : Int} {b_1 : (List Int)}, rec0 v9 b_1 = some r → LWp Pg 19 2 i74_L0 ⟨[(0, .own 1 2 0 b_1.length false), (1, .bad), (4, .bad), (6, .bad), (7, .own 1 1 0 l.length true), (8, .int .i64 ((l.length : Nat) : Int)), (9, .int .i64 v9), (10, .bad)], [], [(1, .arr 1 (List.map (ci .i64) l) 0), (2, .arr 1 (List.map (ci .u8) b_1) 0)], 3⟩ (blockQ 0 (seqQ Pg 19 2 (.seq (.reg none i74_R6) .ret) (qf_74_v1 l r)))
theorem w_m_post_number_v1_l1_B {l : (List Int)} {r : (List Int)}   {rec_m_post_number_v1_l1 : Int → (List Int) → Option (List Int)} (hrec_m_post_number_v1_l1 : H_m_post_number_v1_l1 l rec_m_post_number_v1_l1 r) {v9 : Int} {b_1 : (List Int)} (h : m_post_number_v1_l1_B  l rec_m_post_number_v1_l1 v9 b_1 = some r) : LWp Pg 19 2 i74_L0 ⟨[(0, .own 1 2 0 b_1.length false), (1, .bad), (4, .bad), (6, .bad), (7, .own 1 1 0 l.length true), (8, .int .i64 ((l.length : Nat) : Int)), (9, .int .i64 v9), (10, .bad)], [], [(1, .arr 1 (List.map (ci .i64) l) 0), (2, .arr 1 (List.map (ci .u8) b_1) 0)], 3⟩ (blockQ 0 (seqQ Pg 19 2 (.seq (.reg none i74_R6) .ret) (qf_74_v1 l r))) := by
  unfold m_post_number_v1_l1_B at h
  refine LWp.stepC i74_L0.eq_1 ?_
  refine Wp.seq (regP (seqN (Wp.seq ?_)))
  replace h := ifS h; rcases h with ⟨g1, h⟩ | ⟨g1, h⟩
  · refine condTP (Wp.skip (seqN (Wp.seq (Wp.block (Wp.seq ?_)))))
    replace h := bndS h; obtain ⟨e, g2, h⟩ := h
    have := ias_ownL (n := 1) (id := 1) (ex := true) (k := .i64) g2 rfl
    have := ld_get (c := (ci .i64)) g2
    refine regP (seqN (Wp.reg ?_))
    replace h := bndS h; obtain ⟨r0, g3, h⟩ := h
    refine chunkF 4 (tab_cons (w_m_pack_Uint_v1 g3) (tab_nil _)) ?_
    refine lastT (tab_nil _) (blockN (seqN ?_))
    refine regP (loopN ?_)
    exact jumpL [.kill [6, 10], .tidy] (hrec_m_post_number_v1_l1 h)
  · replace h := retS h; subst h
    refine condFP (Wp.out (seqO (loopO (blockO (seqN (Wp.seq ?_))))))
    refine regP (seqN (Wp.ret ?_))
    exact finW [.kill [0, 7, 8, 9, 10], .tidy]
theorem w_m_post_number_v1_l1 {l : (List Int)} {r : (List Int)}   : ∀ (n : Nat), H_m_post_number_v1_l1 l (m_post_number_v1_l1  l n) r := by
  intro n
  induction n with
  | zero => intro v9 b_1 h; unfold m_post_number_v1_l1 at h; cases h
  | succ n ih => intro v9 b_1 h; unfold m_post_number_v1_l1 at h; exact w_m_post_number_v1_l1_B  ih h
theorem w_m_post_number_v1 {b : (List Int)} {l : (List Int)} {r : (List Int)}   (h : m_post_number_v1 b l = some r) : Spec Pg 74 [.own 1 0 0 b.length false, .own 1 1 0 l.length true] [(0, .arr 1 (List.map (ci .u8) b) 0), (1, .arr 1 (List.map (ci .i64) l) 0)] 2 (.own 1 2 0 r.length false) [(1, .arr 1 (List.map (ci .i64) l) 0), (2, .arr 1 (List.map (ci .u8) r) 0)] 3 := by
  refine Spec.intro Try.func74 i74_ok (le_of_ble rfl) ?_
  show Wp Pg 19 2 i74_B ⟨argEnv _ i74_V, [], _, _⟩ (qf_74_v1 l r)
  unfold m_post_number_v1 at h
  unfold i74_B
  refine weakP [.mov 0] ?_
  refine Wp.seq (regP (seqN (Wp.seq (Wp.seq ?_))))
  refine regP (seqN (Wp.block (Wp.loop ?_)))
  exact jumpL [.kill [1, 4, 6, 10], .tidy] (w_m_post_number_v1_l1 _ h)
/-! funicular/pack.Bytes -/
noncomputable abbrev qf_75_v0 (r : (List Int)) : Ex → St → Prop := FinQ 1 [.tmp 4] (.own 1 1 0 r.length false) [(1, .arr 1 (List.map (ci .u8) r) 0)] 2
theorem w_m_pack_Bytes {b : (List Int)} {s : (List Int)} {r : (List Int)}   (h : m_pack_Bytes b s = some r) : Spec Pg 75 [.own 1 0 0 b.length false, sl (ci .u8) s] [(0, .arr 1 (List.map (ci .u8) b) 0)] 1 (.own 1 1 0 r.length false) [(1, .arr 1 (List.map (ci .u8) r) 0)] 2 := by
  refine Spec.intro Try.func75 i75_ok (le_of_ble rfl) ?_
  show Wp Pg 12 1 i75_B ⟨argEnv _ i75_V, [], _, _⟩ (qf_75_v0 r)
  unfold m_pack_Bytes at h
  unfold i75_B
  refine weakP [.mov 0] ?_
  refine Wp.seq (regP (seqN (Wp.seq (Wp.reg ?_))))
  replace h := bndS h; obtain ⟨r0, g1, h⟩ := h
  refine chunkF 5 (tab_cons (w_m_pack_Uint_v1 g1) (tab_nil _)) ?_
  replace h := reqS h; obtain ⟨g2, h⟩ := h
  replace h := retS h; subst h
  refine lastT (tab_nil _) (seqN (Wp.ret ?_))
  exact finW [.kill [0, 1], .tidy]
/-! funicular/pack.Int -/
noncomputable abbrev qf_77_v0 (r : (List Int)) : Ex → St → Prop := FinQ 1 [.tmp 4] (.own 1 1 0 r.length false) [(1, .arr 1 (List.map (ci .u8) r) 0)] 2
theorem w_m_pack_Int {b : (List Int)} {n0 : Int} {r : (List Int)}   (h : m_pack_Int b n0 = some r) : Spec Pg 77 [.own 1 0 0 b.length false, .int .i64 n0] [(0, .arr 1 (List.map (ci .u8) b) 0)] 1 (.own 1 1 0 r.length false) [(1, .arr 1 (List.map (ci .u8) r) 0)] 2 := by
  refine Spec.intro Try.func77 i77_ok (le_of_ble rfl) ?_
  show Wp Pg 14 1 i77_B ⟨argEnv _ i77_V, [], _, _⟩ (qf_77_v0 r)
  unfold m_pack_Int at h
  unfold i77_B
  refine weakP [.mov 0] ?_
  refine Wp.seq (regP (seqN (Wp.seq (Wp.reg ?_))))
  replace h := bndS h; obtain ⟨r0, g1, h⟩ := h
  replace h := retS h; subst h
  refine chunkF 9 (tab_cons (w_m_pack_Uint_v1 g1) (tab_nil _)) ?_
  refine lastT (tab_nil _) (seqN (Wp.ret ?_))
  exact finW [.kill [0, 1], .tidy]
/-! funicular/vars.Put -/
noncomputable abbrev qf_76_v0 (r : (List Int)) : Ex → St → Prop := FinQ 1 [.tmp 4] (.own 1 1 0 r.length false) [(1, .arr 1 (List.map (ci .u8) r) 0)] 2
noncomputable abbrev H_m_vars_Put_l1 (v : TVars) (rec0 : Int → (List Int) → Option (List Int)) (r : (List Int)) : Prop := ∀ {v16 : Int} {b_1 : (List Int)}, rec0 v16 b_1 = some r → LWp Pg 34 1 i76_L0 ⟨[(0, .own 1 1 0 b_1.length false), (1, .bad), (3, .ptr 2 0), (4, .bad), (5, .bad), (6, .bad), (14, sl cs v.Names), (15, .int .i64 (v.Names.length : Int)), (16, .int .i64 v16), (17, .bad)], [], [(1, .arr 1 (List.map (ci .u8) b_1) 0), (2, .box [sl cs v.Names, sl (ci .i64) v.Vals])], 3⟩ (blockQ 0 (seqQ Pg 34 1 (.seq (.reg none i76_R8) .ret) (qf_76_v0 r)))
theorem w_m_vars_Put_l1_B {v : TVars} {r : (List Int)}   {rec_m_vars_Put_l1 : Int → (List Int) → Option (List Int)} (hrec_m_vars_Put_l1 : H_m_vars_Put_l1 v rec_m_vars_Put_l1 r) {v16 : Int} {b_1 : (List Int)} (h : m_vars_Put_l1_B  v rec_m_vars_Put_l1 v16 b_1 = some r) : LWp Pg 34 1 i76_L0 ⟨[(0, .own 1 1 0 b_1.length false), (1, .bad), (3, .ptr 2 0), (4, .bad), (5, .bad), (6, .bad), (14, sl cs v.Names), (15, .int .i64 (v.Names.length : Int)), (16, .int .i64 v16), (17, .bad)], [], [(1, .arr 1 (List.map (ci .u8) b_1) 0), (2, .box [sl cs v.Names, sl (ci .i64) v.Vals])], 3⟩ (blockQ 0 (seqQ Pg 34 1 (.seq (.reg none i76_R8) .ret) (qf_76_v0 r))) := by
  unfold m_vars_Put_l1_B at h
  refine LWp.stepC i76_L0.eq_1 ?_
  refine Wp.seq (regP (seqN (Wp.seq ?_)))
  replace h := ifS h; rcases h with ⟨g2, h⟩ | ⟨g2, h⟩
  · refine condTP (Wp.skip (seqN (Wp.seq (Wp.block (Wp.seq ?_)))))
    replace h := bndS h; obtain ⟨e, g3, h⟩ := h
    refine regP (seqN (Wp.seq (Wp.reg ?_)))
    replace h := bndS h; obtain ⟨r0_1, g4, h⟩ := h
    refine chunkF 4 (tab_cons (w_m_pack_Bytes g4) (tab_nil _)) ?_
    refine lastT (tab_nil _) (seqN (Wp.reg ?_))
    replace h := bndS h; obtain ⟨e_1, g5, h⟩ := h
    replace h := bndS h; obtain ⟨r0_2, g6, h⟩ := h
    refine chunkF 7 (tab_cons (w_m_pack_Int g6) (tab_nil _)) ?_
    refine lastT (tab_nil _) (blockN (seqN ?_))
    refine regP (loopN ?_)
    exact jumpL [.kill [5, 6, 17], .tidy] (hrec_m_vars_Put_l1 h)
  · replace h := retS h; subst h
    refine condFP (Wp.out (seqO (loopO (blockO (seqN (Wp.seq ?_))))))
    refine regP (seqN (Wp.ret ?_))
    exact finW [.kill [0, 3, 14, 15, 16, 17], .tidy]
theorem w_m_vars_Put_l1 {v : TVars} {r : (List Int)}   : ∀ (n : Nat), H_m_vars_Put_l1 v (m_vars_Put_l1  v n) r := by
  intro n
  induction n with
  | zero => intro v16 b_1 h; unfold m_vars_Put_l1 at h; cases h
  | succ n ih => intro v16 b_1 h; unfold m_vars_Put_l1 at h; exact w_m_vars_Put_l1_B  ih h
theorem w_m_vars_Put {b : (List Int)} {v : TVars} {r : (List Int)}   (h : m_vars_Put b v = some r) : Spec Pg 76 [.own 1 0 0 b.length false, .agg [sl cs v.Names, sl (ci .i64) v.Vals]] [(0, .arr 1 (List.map (ci .u8) b) 0)] 1 (.own 1 1 0 r.length false) [(1, .arr 1 (List.map (ci .u8) r) 0)] 2 := by
  refine Spec.intro Try.func76 i76_ok (le_of_ble rfl) ?_
  show Wp Pg 34 1 i76_B ⟨argEnv _ i76_V, [], _, _⟩ (qf_76_v0 r)
  unfold m_vars_Put at h
  unfold i76_B
  refine weakP [.mov 0] ?_
  refine Wp.seq (regP (seqN (Wp.seq (Wp.reg ?_))))
  replace h := bndS h; obtain ⟨r0, g1, h⟩ := h
  refine chunkF 6 (tab_cons (w_m_pack_Uint_v1 g1) (tab_nil _)) ?_
  refine lastT (tab_nil _) (seqN (Wp.seq (Wp.seq ?_)))
  refine regP (seqN (Wp.block (Wp.loop ?_)))
  exact jumpL [.kill [1, 4, 5, 6, 17], .tidy] (w_m_vars_Put_l1 _ h)
/-! funicular/post.Put -/
noncomputable abbrev qf_27_v0 (r : (List Int)) : Ex → St → Prop := FinQ 0 [.tmp 4] (.own 1 0 0 r.length false) [(0, .arr 1 (List.map (ci .u8) r) 0)] 1
noncomputable abbrev H_m_post_Put_l1 (p : TPost) (rec0 : Int → (List Int) → Option (List Int)) (r : (List Int)) : Prop := ∀ {v22 : Int} {b : (List Int)}, rec0 v22 b = some r → LWp Pg 102 0 i27_L1 ⟨[(0, .own 1 0 0 b.length false), (1, .bad), (3, .ptr 1 0), (4, .bad), (6, .bad), (8, .bad), (10, .bad), (20, sl TMail.c p.Mails), (21, .int .i64 (p.Mails.length : Int)), (22, .int .i64 v22), (23, .bad), (51, .bad), (52, .bad), (53, .bad), (54, .bad), (73, .bad), (74, .bad), (75, .bad), (76, .bad)], [], [(0, .arr 1 (List.map (ci .u8) b) 0), (1, .box [.int .i64 p.Next, sl TMail.c p.Mails, sl TSub.c p.Subs])], 2⟩ (blockQ 0 (seqQ Pg 102 0 (.seq (.reg none i27_R14) (.seq (.seq (.reg none i27_R15) (.block 4 (.loop i27_L2))) (.seq (.reg none i27_R21) .ret))) (qf_27_v0 r)))
noncomputable abbrev H_m_post_Put_l2 (p : TPost) (v22 : Int) (e : TMail) (rec0 : Int → (List Int) → Option (List Int)) (r : (List Int)) : Prop := ∀ {v53 : Int} {b_1 : (List Int)}, rec0 v53 b_1 = some r → LWp Pg 102 0 i27_L0 ⟨[(0, .own 1 0 0 b_1.length false), (1, .bad), (3, .ptr 1 0), (4, .bad), (6, .bad), (8, .bad), (10, .bad), (20, sl TMail.c p.Mails), (21, .int .i64 (p.Mails.length : Int)), (22, .int .i64 v22), (23, .bad), (51, sl TWho.c e.Took), (52, .int .i64 (e.Took.length : Int)), (53, .int .i64 v53), (54, .bad), (73, .bad), (74, .bad), (75, .bad), (76, .bad)], [], [(0, .arr 1 (List.map (ci .u8) b_1) 0), (1, .box [.int .i64 p.Next, sl TMail.c p.Mails, sl TSub.c p.Subs])], 2⟩ (blockQ 2 (blockQ 1 (seqQ Pg 102 0 (.reg none i27_R13) (loopQ Pg 102 0 i27_L1 (blockQ 0 (seqQ Pg 102 0 (.seq (.reg none i27_R14) (.seq (.seq (.reg none i27_R15) (.block 4 (.loop i27_L2))) (.seq (.reg none i27_R21) .ret))) (qf_27_v0 r)))))))
noncomputable abbrev H_m_post_Put_l3 (p : TPost) (rec0 : Int → (List Int) → Option (List Int)) (r : (List Int)) : Prop := ∀ {v75 : Int} {b_3 : (List Int)}, rec0 v75 b_3 = some r → LWp Pg 102 0 i27_L2 ⟨[(0, .own 1 0 0 b_3.length false), (1, .bad), (3, .bad), (4, .bad), (6, .bad), (8, .bad), (10, .bad), (20, .bad), (21, .bad), (22, .bad), (23, .bad), (51, .bad), (52, .bad), (53, .bad), (54, .bad), (73, sl TSub.c p.Subs), (74, .int .i64 (p.Subs.length : Int)), (75, .int .i64 v75), (76, .bad)], [], [(0, .arr 1 (List.map (ci .u8) b_3) 0)], 1⟩ (blockQ 4 (seqQ Pg 102 0 (.seq (.reg none i27_R21) .ret) (qf_27_v0 r)))
theorem w_m_post_Put_l3_B {p : TPost} {r : (List Int)}   {rec_m_post_Put_l3 : Int → (List Int) → Option (List Int)} (hrec_m_post_Put_l3 : H_m_post_Put_l3 p rec_m_post_Put_l3 r) {v75 : Int} {b_3 : (List Int)} (h : m_post_Put_l3_B  p rec_m_post_Put_l3 v75 b_3 = some r) : LWp Pg 102 0 i27_L2 ⟨[(0, .own 1 0 0 b_3.length false), (1, .bad), (3, .bad), (4, .bad), (6, .bad), (8, .bad), (10, .bad), (20, .bad), (21, .bad), (22, .bad), (23, .bad), (51, .bad), (52, .bad), (53, .bad), (54, .bad), (73, sl TSub.c p.Subs), (74, .int .i64 (p.Subs.length : Int)), (75, .int .i64 v75), (76, .bad)], [], [(0, .arr 1 (List.map (ci .u8) b_3) 0)], 1⟩ (blockQ 4 (seqQ Pg 102 0 (.seq (.reg none i27_R21) .ret) (qf_27_v0 r))) := by
  unfold m_post_Put_l3_B at h
  refine LWp.stepC i27_L2.eq_1 ?_
  refine Wp.seq (regP (seqN (Wp.seq ?_)))
  replace h := ifS h; rcases h with ⟨g13, h⟩ | ⟨g13, h⟩
  · refine condTP (Wp.skip (seqN (Wp.seq (Wp.block (Wp.seq ?_)))))
    replace h := bndS h; obtain ⟨e_2, g14, h⟩ := h
    refine regP (seqN (Wp.seq ?_))
    replace h := bndS h; obtain ⟨r0_8, g15, h⟩ := h
    replace h := bndS h; obtain ⟨r0_9, g16, h⟩ := h
    refine drawP [74, 75] mixed (clsC 8 (tab_cons (w_m_post_number_v1 g15) (tab_nil _)) (clsC 12 (tab_cons (w_m_pack_Bytes g16) (tab_nil _)) (clsN _))) (seqN ?_)
    replace h := bndS h; obtain ⟨r0_10, g17, h⟩ := h
    replace h := bndS h; obtain ⟨r0_11, g18, h⟩ := h
    refine drawP [74, 77] mixed (clsC 3 (tab_cons (w_m_pack_Int g17) (tab_nil _)) (clsC 7 (tab_cons (w_m_post_number_v1 g18) (tab_nil _)) (clsN _))) (blockN (seqN ?_))
    refine regP (loopN ?_)
    exact jumpL [.kill [10, 76], .tidy] (hrec_m_post_Put_l3 h)
  · replace h := retS h; subst h
    refine condFP (Wp.out (seqO (loopO (blockO (seqN (Wp.seq ?_))))))
    refine regP (seqN (Wp.ret ?_))
    exact finW [.kill [0, 73, 74, 75, 76], .tidy]
theorem w_m_post_Put_l3 {p : TPost} {r : (List Int)}   : ∀ (n : Nat), H_m_post_Put_l3 p (m_post_Put_l3  p n) r := by
  intro n
  induction n with
  | zero => intro v75 b_3 h; unfold m_post_Put_l3 at h; cases h
  | succ n ih => intro v75 b_3 h; unfold m_post_Put_l3 at h; exact w_m_post_Put_l3_B  ih h
theorem w_m_post_Put_k1 {p : TPost} {b_2 : (List Int)} {r : (List Int)}   (h : m_post_Put_k1 p b_2 = some r) : Wp Pg 102 0 (.seq (.reg none i27_R14) (.seq (.seq (.reg none i27_R15) (.block 4 (.loop i27_L2))) (.seq (.reg none i27_R21) .ret))) ⟨[(0, .own 1 0 0 b_2.length false), (1, .bad), (3, .ptr 1 0), (4, .bad), (6, .bad), (8, .bad), (10, .bad), (20, .bad), (21, .bad), (22, .bad), (23, .bad), (51, .bad), (52, .bad), (53, .bad), (54, .bad), (73, .bad), (74, .bad), (75, .bad), (76, .bad)], [], [(0, .arr 1 (List.map (ci .u8) b_2) 0), (1, .box [.int .i64 p.Next, sl TMail.c p.Mails, sl TSub.c p.Subs])], 2⟩ (qf_27_v0 r) := by
  unfold m_post_Put_k1 at h
  refine Wp.seq (Wp.reg ?_)
  replace h := bndS h; obtain ⟨r0_7, g12, h⟩ := h
  refine chunkF 6 (tab_cons (w_m_post_number_v1 g12) (tab_nil _)) ?_
  refine lastT (tab_nil _) (seqN (Wp.seq (Wp.seq ?_)))
  refine regP (seqN (Wp.block (Wp.loop ?_)))
  exact jumpL [.kill [3], .tidy] (w_m_post_Put_l3 _ h)
theorem w_m_post_Put_l2_B {p : TPost} {v22 : Int} {e : TMail} {r : (List Int)} {rec_m_post_Put_l1 : Int → (List Int) → Option (List Int)} (hrec_m_post_Put_l1 : H_m_post_Put_l1 p rec_m_post_Put_l1 r) {rec_m_post_Put_l2 : Int → (List Int) → Option (List Int)} (hrec_m_post_Put_l2 : H_m_post_Put_l2 p v22 e rec_m_post_Put_l2 r) {v53 : Int} {b_1 : (List Int)} (h : m_post_Put_l2_B rec_m_post_Put_l1 v22 e rec_m_post_Put_l2 v53 b_1 = some r) : LWp Pg 102 0 i27_L0 ⟨[(0, .own 1 0 0 b_1.length false), (1, .bad), (3, .ptr 1 0), (4, .bad), (6, .bad), (8, .bad), (10, .bad), (20, sl TMail.c p.Mails), (21, .int .i64 (p.Mails.length : Int)), (22, .int .i64 v22), (23, .bad), (51, sl TWho.c e.Took), (52, .int .i64 (e.Took.length : Int)), (53, .int .i64 v53), (54, .bad), (73, .bad), (74, .bad), (75, .bad), (76, .bad)], [], [(0, .arr 1 (List.map (ci .u8) b_1) 0), (1, .box [.int .i64 p.Next, sl TMail.c p.Mails, sl TSub.c p.Subs])], 2⟩ (blockQ 2 (blockQ 1 (seqQ Pg 102 0 (.reg none i27_R13) (loopQ Pg 102 0 i27_L1 (blockQ 0 (seqQ Pg 102 0 (.seq (.reg none i27_R14) (.seq (.seq (.reg none i27_R15) (.block 4 (.loop i27_L2))) (.seq (.reg none i27_R21) .ret))) (qf_27_v0 r))))))) := by
  unfold m_post_Put_l2_B at h
  refine LWp.stepC i27_L0.eq_1 ?_
  refine Wp.seq (regP (seqN (Wp.seq ?_)))
  replace h := ifS h; rcases h with ⟨g9, h⟩ | ⟨g9, h⟩
  · refine condTP (Wp.skip (seqN (Wp.seq (Wp.block (Wp.seq ?_)))))
    replace h := bndS h; obtain ⟨e_1, g10, h⟩ := h
    refine regP (seqN (Wp.reg ?_))
    replace h := bndS h; obtain ⟨r0_6, g11, h⟩ := h
    refine chunkF 7 (tab_cons (w_m_post_number_v1 g11) (tab_nil _)) ?_
    refine lastT (tab_nil _) (blockN (seqN ?_))
    refine regP (loopN ?_)
    exact jumpL [.kill [8, 54], .tidy] (hrec_m_post_Put_l2 h)
  · refine condFP (Wp.out (seqO (loopO (blockO (blockN (seqN ?_))))))
    refine regP (loopN ?_)
    exact jumpL [.kill [51, 52, 53, 54]] (hrec_m_post_Put_l1 h)
theorem w_m_post_Put_l2 {p : TPost} {v22 : Int} {e : TMail} {r : (List Int)} {rec_m_post_Put_l1 : Int → (List Int) → Option (List Int)} (hrec_m_post_Put_l1 : H_m_post_Put_l1 p rec_m_post_Put_l1 r) : ∀ (n : Nat), H_m_post_Put_l2 p v22 e (m_post_Put_l2 rec_m_post_Put_l1 v22 e n) r := by
  intro n
  induction n with
  | zero => intro v53 b_1 h; unfold m_post_Put_l2 at h; cases h
  | succ n ih => intro v53 b_1 h; unfold m_post_Put_l2 at h; exact w_m_post_Put_l2_B (p := p) hrec_m_post_Put_l1 ih h
theorem w_m_post_Put_l1_B {p : TPost} {r : (List Int)}   {rec_m_post_Put_l1 : Int → (List Int) → Option (List Int)} (hrec_m_post_Put_l1 : H_m_post_Put_l1 p rec_m_post_Put_l1 r) {v22 : Int} {b : (List Int)} (h : m_post_Put_l1_B  p rec_m_post_Put_l1 v22 b = some r) : LWp Pg 102 0 i27_L1 ⟨[(0, .own 1 0 0 b.length false), (1, .bad), (3, .ptr 1 0), (4, .bad), (6, .bad), (8, .bad), (10, .bad), (20, sl TMail.c p.Mails), (21, .int .i64 (p.Mails.length : Int)), (22, .int .i64 v22), (23, .bad), (51, .bad), (52, .bad), (53, .bad), (54, .bad), (73, .bad), (74, .bad), (75, .bad), (76, .bad)], [], [(0, .arr 1 (List.map (ci .u8) b) 0), (1, .box [.int .i64 p.Next, sl TMail.c p.Mails, sl TSub.c p.Subs])], 2⟩ (blockQ 0 (seqQ Pg 102 0 (.seq (.reg none i27_R14) (.seq (.seq (.reg none i27_R15) (.block 4 (.loop i27_L2))) (.seq (.reg none i27_R21) .ret))) (qf_27_v0 r))) := by
  unfold m_post_Put_l1_B at h
  refine LWp.stepC i27_L1.eq_1 ?_
  refine Wp.seq (regP (seqN (Wp.seq ?_)))
  replace h := ifS h; rcases h with ⟨g2, h⟩ | ⟨g2, h⟩
  · refine condTP (Wp.skip (seqN (Wp.seq (Wp.block (Wp.seq ?_)))))
    replace h := bndS h; obtain ⟨e, g3, h⟩ := h
    refine regP (seqN (Wp.seq ?_))
    replace h := bndS h; obtain ⟨r0_1, g4, h⟩ := h
    replace h := bndS h; obtain ⟨r0_2, g5, h⟩ := h
    refine drawP [74, 75] mixed (clsC 4 (tab_cons (w_m_post_number_v1 g4) (tab_nil _)) (clsC 8 (tab_cons (w_m_pack_Bytes g5) (tab_nil _)) (clsN _))) (seqN (Wp.seq ?_))
    replace h := bndS h; obtain ⟨r0_3, g6, h⟩ := h
    replace h := bndS h; obtain ⟨r0_4, g7, h⟩ := h
    refine drawP [76, 77] mixed (clsC 3 (tab_cons (w_m_pack_Int g6) (tab_nil _)) (clsC 6 (tab_cons (w_m_vars_Put g7) (tab_nil _)) (clsN _))) (seqN (Wp.seq (Wp.reg ?_)))
    replace h := bndS h; obtain ⟨r0_5, g8, h⟩ := h
    refine chunkF 8 (tab_cons (w_m_post_number_v1 g8) (tab_nil _)) ?_
    refine lastT (tab_nil _) (seqN (Wp.seq ?_))
    refine regP (seqN (Wp.block (Wp.loop ?_)))
    exact jumpL [.kill [6, 23], .tidy] (w_m_post_Put_l2 (p := p) hrec_m_post_Put_l1 _ h)
  · refine condFP (Wp.out (seqO (loopO (blockO (seqN ?_)))))
    exact jumpK [.kill [20, 21, 22, 23]] (w_m_post_Put_k1 h)
theorem w_m_post_Put_l1 {p : TPost} {r : (List Int)}   : ∀ (n : Nat), H_m_post_Put_l1 p (m_post_Put_l1  p n) r := by
  intro n
  induction n with
  | zero => intro v22 b h; unfold m_post_Put_l1 at h; cases h
  | succ n ih => intro v22 b h; unfold m_post_Put_l1 at h; exact w_m_post_Put_l1_B  ih h
theorem w_m_post_Put {p : TPost} {r : (List Int)}   (h : m_post_Put p = some r) : Spec Pg 27 [.nil, .agg [.int .i64 p.Next, sl TMail.c p.Mails, sl TSub.c p.Subs]] [] 0 (.own 1 0 0 r.length false) [(0, .arr 1 (List.map (ci .u8) r) 0)] 1 := by
  refine Spec.intro Try.func27 i27_ok (le_of_ble rfl) ?_
  show Wp Pg 102 0 i27_B ⟨argEnv _ i27_V, [], _, _⟩ (qf_27_v0 r)
  unfold m_post_Put at h
  unfold i27_B
  refine weakP [] ?_
  refine Wp.seq (regP (seqN (Wp.seq (Wp.reg ?_))))
  replace h := bndS h; obtain ⟨r0, g1, h⟩ := h
  refine chunkF 8 (tab_cons (w_m_post_number g1) (tab_nil _)) ?_
  refine lastT (tab_nil _) (seqN (Wp.seq (Wp.seq ?_)))
  refine regP (seqN (Wp.block (Wp.loop ?_)))
  exact jumpL [.kill [1, 4, 6, 8, 10, 23, 51, 52, 53, 54, 73, 74, 75, 76], .tidy] (w_m_post_Put_l1 _ h)
/-! (*funicular/post.reader).keep -/
noncomputable abbrev qf_92_v0 (r : (Bool × Treader)) : Ex → St → Prop := FinQ 1 [.tmp 6] (.bool r.1) [(0, .box [sl (ci .u8) r.2.f_b, .int .i64 r.2.f_err])] 1
theorem w_m_post_reader_keep_k1 {r_0 : (List Int)} {r_1 : Int} {r : (Bool × Treader)}   (h : m_post_reader_keep_k1 r_0 r_1 = some r) : Wp Pg 25 1 (.seq (.reg none i92_R3) .ret) ⟨[(0, .ptr 0 0), (1, .bad), (2, .bad), (6, .bad), (11, .bad)], [], [(0, .box [sl (ci .u8) r_0, .int .i64 r_1])], 1⟩ (qf_92_v0 r) := by
  unfold m_post_reader_keep_k1 at h
  replace h := retS h; subst h
  refine Wp.seq (regP (seqN (Wp.ret ?_)))
  exact finW [.kill [0], .tidy]
theorem w_m_post_reader_keep {rest : (List Int)} {e : Int} {r0 : Treader} {r : (Bool × Treader)}   (h : m_post_reader_keep rest e r0 = some r) : Spec Pg 92 [.ptr 0 0, sl (ci .u8) rest, .int .i64 e] [(0, .box [sl (ci .u8) r0.f_b, .int .i64 r0.f_err])] 1 (.bool r.1) [(0, .box [sl (ci .u8) r.2.f_b, .int .i64 r.2.f_err])] 1 := by
  refine Spec.intro Try.func92 i92_ok (le_of_ble rfl) ?_
  show Wp Pg 25 1 i92_B ⟨argEnv _ i92_V, [], _, _⟩ (qf_92_v0 r)
  unfold m_post_reader_keep at h
  unfold i92_B
  refine weakP [] ?_
  refine Wp.seq (regP (seqN (Wp.seq (Wp.seq ?_))))
  refine regP (seqN ?_)
  replace h := ifS h; rcases h with ⟨g1, h⟩ | ⟨g1, h⟩
  · refine condTP ?_
    refine regP (seqN ?_)
    exact jumpK [.kill [1, 2, 6, 11]] (w_m_post_reader_keep_k1 h)
  · refine condFP (Wp.skip (seqN ?_))
    exact jumpK [.kill [1, 2, 6, 11]] (w_m_post_reader_keep_k1 h)
/-! funicular/pack.ReadUint -/
noncomputable abbrev qf_91 (r : (Int × (List Int) × Int)) : Ex → St → Prop := FinQ 0 [.tmp 2, .tmp 3, .tmp 4] (.tup [.int .u64 r.1, sl (ci .u8) r.2.1, .int .i64 r.2.2]) [] 0
noncomputable abbrev H_m_pack_ReadUint_l1 (b : (List Int)) (rec0 : Int → Int → Option (Int × (List Int) × Int)) (r : (Int × (List Int) × Int)) : Prop := ∀ {n0 v11 : Int}, rec0 n0 v11 = some r → LWp Pg 46 0 i91_L0 ⟨[(0, sl (ci .u8) b), (2, .bad), (3, .bad), (4, .bad), (5, .int .u64 n0), (6, .bad), (7, .bad), (10, .int .i64 (if (10 : Int) < (b.length : Int) then (10 : Int) else (b.length : Int))), (11, .int .i64 v11), (12, .bad), (24, .bad), (33, .bad), (39, .bad)], [], [], 0⟩ (blockQ 0 (seqQ Pg 46 0 (.seq (.reg none i91_R14) .ret) (qf_91 r)))
theorem w_m_pack_ReadUint_k3  {r : (Int × (List Int) × Int)}   (h : m_pack_ReadUint_k3 = some r) : Wp Pg 46 0 (.seq (.reg none i91_R14) .ret) ⟨[(0, .bad), (2, .bad), (3, .bad), (4, .bad), (5, .bad), (6, .bad), (7, .bad), (10, .bad), (11, .bad), (12, .bad), (24, .bad), (33, .bad), (39, .bad)], [], [], 0⟩ (qf_91 r) := by
  unfold m_pack_ReadUint_k3 at h
  replace h := retS h; subst h
  refine Wp.seq (regP (seqN ?_))
  refine weakP [.at 3 .frz] (Wp.ret ?_)
  exact finP
theorem w_m_pack_ReadUint_k2 {b : (List Int)} {n0 v11 e : Int} {v39 : Bool} {r : (Int × (List Int) × Int)}   (h : m_pack_ReadUint_k2 b n0 v11 e v39 = some r) : Wp Pg 46 0 (.cond (.t 39) (.seq (.reg none i91_R11) .ret) .skip) ⟨[(0, sl (ci .u8) b), (2, .bad), (3, .bad), (4, .bad), (5, .int .u64 (orI .u64 n0 (shlI .u64 (andI .u64 (IntKind.u64.wrap e) (127 : Int)) (IntKind.i64.wrap ((7 : Int) * v11))))), (6, .int .i64 v11), (7, .bad), (10, .bad), (11, .bad), (12, .bad), (24, .bad), (33, .bad), (39, .bool v39)], [], [], 0⟩ (seqQ Pg 46 0 (.seq (.reg (some []) i91_R12) .ret) (blockQ 1 (seqQ Pg 46 0 (.reg none i91_R13) (loopQ Pg 46 0 i91_L0 (blockQ 0 (seqQ Pg 46 0 (.seq (.reg none i91_R14) .ret) (qf_91 r))))))) := by
  unfold m_pack_ReadUint_k2 at h
  replace h := ifS h; rcases h with ⟨g8, h⟩ | ⟨g8, h⟩
  · replace h := retS h; subst h
    refine condTP (Wp.seq ?_)
    refine regP (seqN ?_)
    refine weakP [.at 3 .frz] (Wp.ret (seqR (blockR (seqR (loopR (blockR (seqR ?_)))))))
    exact finP
  · refine condFP (Wp.skip (seqN (Wp.seq ?_)))
    replace h := bndS h; obtain ⟨l, g9, h⟩ := h
    replace h := retS h; subst h
    refine drawP [] mixed (clsN _) (seqN (Wp.ret (blockR (seqR (loopR (blockR (seqR ?_)))))))
    exact finP
theorem w_m_pack_ReadUint_k1 {b : (List Int)} {n0 v11 e : Int} {v24 : Bool} {r : (Int × (List Int) × Int)} {rec_m_pack_ReadUint_l1 : Int → Int → Option (Int × (List Int) × Int)} (hrec_m_pack_ReadUint_l1 : H_m_pack_ReadUint_l1 b rec_m_pack_ReadUint_l1 r) (h : m_pack_ReadUint_k1 rec_m_pack_ReadUint_l1 b n0 v11 e v24 = some r) : Wp Pg 46 0 (.cond (.t 24) (.seq (.reg none i91_R7) .ret) .skip) ⟨[(0, sl (ci .u8) b), (2, .bad), (3, .bad), (4, .bad), (5, .int .u64 n0), (6, .int .i64 v11), (7, .int .u64 (IntKind.u64.wrap e)), (10, .int .i64 (if (10 : Int) < (b.length : Int) then (10 : Int) else (b.length : Int))), (11, .int .i64 v11), (12, .bad), (24, .bool v24), (33, .bad), (39, .bad)], [], [], 0⟩ (seqQ Pg 46 0 (.seq (.reg none i91_R8) (.seq (.reg none i91_R9) (.cond (.t 33) (.seq (.seq (.reg none i91_R10) (.cond (.t 39) (.seq (.reg none i91_R11) .ret) .skip)) (.seq (.reg (some []) i91_R12) .ret)) .skip))) (blockQ 1 (seqQ Pg 46 0 (.reg none i91_R13) (loopQ Pg 46 0 i91_L0 (blockQ 0 (seqQ Pg 46 0 (.seq (.reg none i91_R14) .ret) (qf_91 r))))))) := by
  unfold m_pack_ReadUint_k1 at h
  replace h := ifS h; rcases h with ⟨g4, h⟩ | ⟨g4, h⟩
  · replace h := retS h; subst h
    refine condTP (Wp.seq ?_)
    refine regP (seqN ?_)
    refine weakP [.at 3 .frz] (Wp.ret (seqR (blockR (seqR (loopR (blockR (seqR ?_)))))))
    exact finP
  · refine condFP (Wp.skip (seqN (Wp.seq ?_)))
    replace h := reqF h; obtain ⟨g5, h⟩ := h
    refine regP (seqN (Wp.seq ?_))
    refine regP (seqN ?_)
    replace h := ifS h; rcases h with ⟨g6, h⟩ | ⟨g6, h⟩
    · refine condTP (Wp.seq (Wp.seq ?_))
      replace h := ifS h; rcases h with ⟨g7, h⟩ | ⟨g7, h⟩
      · refine regP (seqN ?_)
        exact jumpK [.kill [7, 10, 11, 24, 33]] (w_m_pack_ReadUint_k2 h)
      · refine regP (seqN ?_)
        exact jumpK [.kill [7, 10, 11, 24, 33]] (w_m_pack_ReadUint_k2 h)
    · refine condFP (Wp.skip (blockN (seqN ?_)))
      refine regP (loopN ?_)
      exact jumpL [.kill [6, 7, 24, 33]] (hrec_m_pack_ReadUint_l1 h)
theorem w_m_pack_ReadUint_l1_B {b : (List Int)} {r : (Int × (List Int) × Int)}   {rec_m_pack_ReadUint_l1 : Int → Int → Option (Int × (List Int) × Int)} (hrec_m_pack_ReadUint_l1 : H_m_pack_ReadUint_l1 b rec_m_pack_ReadUint_l1 r) {n0 v11 : Int} (h : m_pack_ReadUint_l1_B  b rec_m_pack_ReadUint_l1 n0 v11 = some r) : LWp Pg 46 0 i91_L0 ⟨[(0, sl (ci .u8) b), (2, .bad), (3, .bad), (4, .bad), (5, .int .u64 n0), (6, .bad), (7, .bad), (10, .int .i64 (if (10 : Int) < (b.length : Int) then (10 : Int) else (b.length : Int))), (11, .int .i64 v11), (12, .bad), (24, .bad), (33, .bad), (39, .bad)], [], [], 0⟩ (blockQ 0 (seqQ Pg 46 0 (.seq (.reg none i91_R14) .ret) (qf_91 r))) := by
  unfold m_pack_ReadUint_l1_B at h
  refine LWp.stepC i91_L0.eq_1 ?_
  refine Wp.seq (regP (seqN (Wp.seq ?_)))
  replace h := ifS h; rcases h with ⟨g1, h⟩ | ⟨g1, h⟩
  · refine condTP (Wp.skip (seqN (Wp.seq (Wp.block (Wp.seq ?_)))))
    refine regP (seqN (Wp.seq ?_))
    replace h := bndS h; obtain ⟨e, g2, h⟩ := h
    refine regP (seqN (Wp.seq (Wp.seq ?_)))
    replace h := ifS h; rcases h with ⟨g3, h⟩ | ⟨g3, h⟩
    · refine regP (seqN ?_)
      exact jumpK [.kill [12]] (w_m_pack_ReadUint_k1 hrec_m_pack_ReadUint_l1 h)
    · refine regP (seqN ?_)
      exact jumpK [.kill [12]] (w_m_pack_ReadUint_k1 hrec_m_pack_ReadUint_l1 h)
  · refine condFP (Wp.out (seqO (loopO (blockO (seqN ?_)))))
    exact jumpK [.kill [0, 5, 10, 11, 12]] (w_m_pack_ReadUint_k3 h)
theorem w_m_pack_ReadUint_l1 {b : (List Int)} {r : (Int × (List Int) × Int)}   : ∀ (n : Nat), H_m_pack_ReadUint_l1 b (m_pack_ReadUint_l1  b n) r := by
  intro n
  induction n with
  | zero => intro n0 v11 h; unfold m_pack_ReadUint_l1 at h; cases h
  | succ n ih => intro n0 v11 h; unfold m_pack_ReadUint_l1 at h; exact w_m_pack_ReadUint_l1_B  ih h
theorem w_m_pack_ReadUint {b : (List Int)} {r : (Int × (List Int) × Int)}   (h : m_pack_ReadUint b = some r) : Spec Pg 91 [sl (ci .u8) b] [] 0 (.tup [.int .u64 r.1, sl (ci .u8) r.2.1, .int .i64 r.2.2]) [] 0 := by
  refine Spec.intro Try.func91 i91_ok (le_of_ble rfl) ?_
  show Wp Pg 46 0 i91_B ⟨argEnv _ i91_V, [], _, _⟩ (qf_91 r)
  unfold m_pack_ReadUint at h
  unfold i91_B
  refine weakP [] ?_
  refine Wp.seq (regP (seqN (Wp.seq ?_)))
  refine regP (seqN (Wp.seq (Wp.seq ?_)))
  refine regP (seqN (Wp.block (Wp.loop ?_)))
  exact jumpL [.kill [2, 3, 4, 6, 7, 12, 24, 33, 39]] (w_m_pack_ReadUint_l1 _ h)
/-! (*funicular/post.reader).next -/
noncomputable abbrev qf_70_v0 (r : (Int × Treader)) : Ex → St → Prop := FinQ 1 [.tmp 2] (.int .i64 r.1) [(0, .box [sl (ci .u8) r.2.f_b, .int .i64 r.2.f_err])] 1
theorem w_m_post_reader_next_k2 {r0 : Treader} {r0_1 : (Int × (List Int) × Int)} {e : Int} {r : (Int × Treader)}   (h : m_post_reader_next_k2 r0 r0_1 e = some r) : Wp Pg 28 1 (.seq (.seq (.reg none i70_R4) (.cond (.t 25) (.seq (.reg none i70_R5) .ret) .skip)) (.seq (.reg none i70_R6) .ret)) ⟨[(0, .ptr 0 0), (2, .bad), (3, .int .u64 r0_1.1), (4, sl (ci .u8) r0_1.2.1), (5, .int .i64 e), (20, .bad), (25, .bad)], [], [(0, .box [sl (ci .u8) r0.f_b, .int .i64 r0.f_err])], 1⟩ (qf_70_v0 r) := by
  unfold m_post_reader_next_k2 at h
  refine Wp.seq (Wp.seq (Wp.reg ?_))
  replace h := bndS h; obtain ⟨r0_2, g4, h⟩ := h
  refine chunkF 4 (tab_cons (w_m_post_reader_keep g4) (tab_nil _)) ?_
  refine lastT (tab_nil _) (seqN ?_)
  replace h := ifS h; rcases h with ⟨g5, h⟩ | ⟨g5, h⟩
  · replace h := retS h; subst h
    refine condFP (Wp.skip (seqN (Wp.seq ?_)))
    refine regP (seqN (Wp.ret ?_))
    exact finW [.kill [0, 3, 4, 5, 25], .tidy]
  · replace h := retS h; subst h
    refine condTP (Wp.seq ?_)
    refine regP (seqN (Wp.ret (seqR ?_)))
    exact finW [.kill [0, 3, 4, 5, 25], .tidy]
theorem w_m_post_reader_next_k1 {r0 : Treader} {r0_1 : (Int × (List Int) × Int)} {v20 : Bool} {r : (Int × Treader)}   (h : m_post_reader_next_k1 r0 r0_1 v20 = some r) : Wp Pg 28 1 (.cond (.t 20) (.reg none i70_R3) .skip) ⟨[(0, .ptr 0 0), (2, .bad), (3, .int .u64 r0_1.1), (4, sl (ci .u8) r0_1.2.1), (5, .int .i64 r0_1.2.2), (20, .bool v20), (25, .bad)], [], [(0, .box [sl (ci .u8) r0.f_b, .int .i64 r0.f_err])], 1⟩ (seqQ Pg 28 1 (.seq (.seq (.reg none i70_R4) (.cond (.t 25) (.seq (.reg none i70_R5) .ret) .skip)) (.seq (.reg none i70_R6) .ret)) (qf_70_v0 r)) := by
  unfold m_post_reader_next_k1 at h
  replace h := ifS h; rcases h with ⟨g3, h⟩ | ⟨g3, h⟩
  · refine condTP ?_
    refine regP (seqN ?_)
    exact jumpK [.kill [20]] (w_m_post_reader_next_k2 h)
  · refine condFP (Wp.skip (seqN ?_))
    exact jumpK [.kill [20]] (w_m_post_reader_next_k2 h)
theorem w_m_post_reader_next {r0 : Treader} {r : (Int × Treader)}   (h : m_post_reader_next r0 = some r) : Spec Pg 70 [.ptr 0 0] [(0, .box [sl (ci .u8) r0.f_b, .int .i64 r0.f_err])] 1 (.int .i64 r.1) [(0, .box [sl (ci .u8) r.2.f_b, .int .i64 r.2.f_err])] 1 := by
  refine Spec.intro Try.func70 i70_ok (le_of_ble rfl) ?_
  show Wp Pg 28 1 i70_B ⟨argEnv _ i70_V, [], _, _⟩ (qf_70_v0 r)
  unfold m_post_reader_next at h
  unfold i70_B
  refine weakP [] ?_
  refine Wp.seq (regP (seqN (Wp.seq (Wp.reg ?_))))
  replace h := bndS h; obtain ⟨r0_1, g1, h⟩ := h
  refine chunkT 5 (tab_cons (w_m_pack_ReadUint g1) (tab_nil _)) ?_
  refine lastT (tab_nil _) (seqN (Wp.seq (Wp.seq ?_)))
  replace h := ifS h; rcases h with ⟨g2, h⟩ | ⟨g2, h⟩
  · refine regP (seqN ?_)
    exact jumpK [.kill [2, 25]] (w_m_post_reader_next_k1 h)
  · refine regP (seqN ?_)
    exact jumpK [.kill [2, 25]] (w_m_post_reader_next_k1 h)
/-! funicular/pack.ReadBytes -/
noncomputable abbrev qf_93 (r : ((List Int) × (List Int) × Int)) : Ex → St → Prop := FinQ 0 [.tmp 2, .tmp 3, .tmp 4] (.tup [sl (ci .u8) r.1, sl (ci .u8) r.2.1, .int .i64 r.2.2]) [] 0
theorem w_m_pack_ReadBytes {b : (List Int)} {r : ((List Int) × (List Int) × Int)}   (h : m_pack_ReadBytes b = some r) : Spec Pg 93 [sl (ci .u8) b] [] 0 (.tup [sl (ci .u8) r.1, sl (ci .u8) r.2.1, .int .i64 r.2.2]) [] 0 := by
  refine Spec.intro Try.func93 i93_ok (le_of_ble rfl) ?_
  show Wp Pg 29 0 i93_B ⟨argEnv _ i93_V, [], _, _⟩ (qf_93 r)
  unfold m_pack_ReadBytes at h
  unfold i93_B
  refine weakP [] ?_
  refine Wp.seq (regP (seqN (Wp.seq (Wp.reg ?_))))
  replace h := bndS h; obtain ⟨r0, g1, h⟩ := h
  refine chunkT 2 (tab_cons (w_m_pack_ReadUint g1) (tab_nil _)) ?_
  refine lastT (tab_nil _) (seqN (Wp.seq (Wp.seq ?_)))
  refine regP (seqN ?_)
  replace h := ifS h; rcases h with ⟨g2, h⟩ | ⟨g2, h⟩
  · replace h := retS h; subst h
    refine condTP (Wp.seq ?_)
    refine regP (seqN ?_)
    refine weakP [.at 2 .frz, .at 3 .frz] (Wp.ret (seqR ?_))
    exact finP
  · refine condFP (Wp.skip (seqN (Wp.seq (Wp.seq ?_))))
    refine regP (seqN ?_)
    replace h := ifS h; rcases h with ⟨g3, h⟩ | ⟨g3, h⟩
    · replace h := retS h; subst h
      refine condTP (Wp.seq ?_)
      refine regP (seqN ?_)
      refine weakP [.at 2 .frz, .at 3 .frz] (Wp.ret (seqR ?_))
      exact finP
    · refine condFP (Wp.skip (seqN (Wp.seq ?_)))
      replace h := bndS h; obtain ⟨l, g4, h⟩ := h
      replace h := bndS h; obtain ⟨l_1, g5, h⟩ := h
      replace h := retS h; subst h
      refine drawP [] mixed (clsN _) (seqN ?_)
      refine weakP [.at 2 .frz] (Wp.ret ?_)
      exact finP
end Go.Proofs.Ytefjblgmnoheiaa.R
