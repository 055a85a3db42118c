/- The program's functions answer what the models answer: 6. -/
import Derived.Test.YtefjblgmnoheiaaMW0
import Derived.Test.YtefjblgmnoheiaaMW1
import Derived.Test.YtefjblgmnoheiaaMW2
import Derived.Test.YtefjblgmnoheiaaMW3
import Derived.Test.YtefjblgmnoheiaaMW5
set_option maxRecDepth 100000
set_option maxHeartbeats 1600000
set_option linter.unusedVariables false
set_option linter.unusedSimpArgs false
set_option linter.defProp false
noncomputable section
namespace Go.Proofs.Ytefjblgmnoheiaa.R
open Go Nat
/-! funicular/post.Read -/
noncomputable abbrev qf_26 (r : (TPost × (List Int) × Int)) : Ex → St → Prop := FinQ 0 [.cell 2 true 3, .tmp 3, .tmp 4] (.tup [.agg [.int .i64 r.1.Next, sl TMail.c r.1.Mails, sl TSub.c r.1.Subs], sl (ci .u8) r.2.1, .int .i64 r.2.2]) [] 0
noncomputable abbrev H_m_post_Read_l1 (r0 : (Int × Treader)) (rec0 : Int → (List Int) → Int → (List TMail) → Option (TPost × (List Int) × Int)) (r : (TPost × (List Int) × Int)) : Prop := ∀ {n0 : Int} {r_0 : (List Int)} {r_1 : Int} {p_1 : (List TMail)}, rec0 n0 r_0 r_1 p_1 = some r → LWp Pg 126 0 i26_L1 ⟨[(0, .bad), (2, .ptr 0 0), (3, .bad), (4, .bad), (5, .ptr 1 0), (6, .ptr 2 0), (7, .int .i64 n0), (8, .bad), (9, .bad), (10, .bad), (27, .bad), (51, .bad), (80, .bad), (105, .bad), (115, .bad)], [], [(0, .box [.int .i64 (0 : Int), .nil, .nil]), (1, .box [sl (ci .u8) r_0, .int .i64 r_1]), (2, .box [.int .i64 r0.1, .own 7 3 0 p_1.length false, .nil]), (3, .arr 7 (List.map TMail.c p_1) 0)], 4⟩ (blockQ 0 (seqQ Pg 126 0 (.seq (.seq (.reg none i26_R12) (.block 4 (.loop i26_L2))) (.seq (.seq (.reg none i26_R16) (.cond (.t 105) (.reg none i26_R17) .skip)) (.seq (.seq (.reg none i26_R18) (.cond (.t 115) (.seq (.reg (some [(4, 5)]) i26_R19) .ret) .skip)) (.seq (.reg (some [(4, 5)]) i26_R20) .ret)))) (qf_26 r)))
noncomputable abbrev H_m_post_Read_l2 (r0 : (Int × Treader)) (n0 : Int) (p_1 : (List TMail)) (r0_2 : (Int × Treader)) (r0_3 : (ByteArray × Treader)) (r0_4 : (Int × Treader)) (r0_5 : (TVars × Treader)) (r0_6 : (Int × Treader)) (rec0 : Int → (List Int) → Int → (List TWho) → Option (TPost × (List Int) × Int)) (r : (TPost × (List Int) × Int)) : Prop := ∀ {k : Int} {r_0_1 : (List Int)} {r_1_1 : Int} {m_60 : (List TWho)}, rec0 k r_0_1 r_1_1 m_60 = some r → LWp Pg 126 0 i26_L0 ⟨[(0, .bad), (2, .ptr 0 0), (3, .bad), (4, .bad), (5, .ptr 1 0), (6, .ptr 2 0), (7, .int .i64 n0), (8, .ptr 4 0), (9, .int .i64 k), (10, .bad), (27, .bad), (51, .bad), (80, .bad), (105, .bad), (115, .bad)], [], (hp19 (0 : Int) r_0_1 r_1_1 r0.1 p_1 r0_2.1 r0_3.1 r0_4.1 r0_5.1.Names r0_5.1.Vals r0_6.1 m_60), 6⟩ (blockQ 2 (seqQ Pg 126 0 (.reg none i26_R10) (blockQ 1 (seqQ Pg 126 0 (.reg none i26_R11) (loopQ Pg 126 0 i26_L1 (blockQ 0 (seqQ Pg 126 0 (.seq (.seq (.reg none i26_R12) (.block 4 (.loop i26_L2))) (.seq (.seq (.reg none i26_R16) (.cond (.t 105) (.reg none i26_R17) .skip)) (.seq (.seq (.reg none i26_R18) (.cond (.t 115) (.seq (.reg (some [(4, 5)]) i26_R19) .ret) .skip)) (.seq (.reg (some [(4, 5)]) i26_R20) .ret)))) (qf_26 r))))))))
noncomputable abbrev H_m_post_Read_l3 (r0 : (Int × Treader)) (p_1_1 : (List TMail)) (rec0 : Int → (List Int) → Int → (List TSub) → Option (TPost × (List Int) × Int)) (r : (TPost × (List Int) × Int)) : Prop := ∀ {n0_1 : Int} {r_0_4 : (List Int)} {r_1_4 : Int} {p_2 : (List TSub)}, rec0 n0_1 r_0_4 r_1_4 p_2 = some r → LWp Pg 126 0 i26_L2 ⟨[(0, .bad), (2, .ptr 0 0), (3, .bad), (4, .bad), (5, .ptr 1 0), (6, .ptr 2 0), (7, .bad), (8, .bad), (9, .bad), (10, .int .i64 n0_1), (27, .bad), (51, .bad), (80, .bad), (105, .bad), (115, .bad)], [], [(0, .box [.int .i64 (0 : Int), .nil, .nil]), (1, .box [sl (ci .u8) r_0_4, .int .i64 r_1_4]), (2, .box [.int .i64 r0.1, .own 7 3 0 p_1_1.length false, .own 6 4 0 p_2.length false]), (3, .arr 7 (List.map TMail.c p_1_1) 0), (4, .arr 6 (List.map TSub.c p_2) 0)], 5⟩ (blockQ 4 (seqQ Pg 126 0 (.seq (.seq (.reg none i26_R16) (.cond (.t 105) (.reg none i26_R17) .skip)) (.seq (.seq (.reg none i26_R18) (.cond (.t 115) (.seq (.reg (some [(4, 5)]) i26_R19) .ret) .skip)) (.seq (.reg (some [(4, 5)]) i26_R20) .ret))) (qf_26 r)))
theorem w_m_post_Read_k7 {r0 : (Int × Treader)} {p_1_1 : (List TMail)} {r_0_5 : (List Int)} {p_2_1 : (List TSub)} {r_1_6 : Int} {r : (TPost × (List Int) × Int)}   (h : m_post_Read_k7 r0 p_1_1 r_0_5 p_2_1 r_1_6 = some r) : Wp Pg 126 0 (.seq (.seq (.reg none i26_R18) (.cond (.t 115) (.seq (.reg (some [(4, 5)]) i26_R19) .ret) .skip)) (.seq (.reg (some [(4, 5)]) i26_R20) .ret)) ⟨[(0, .bad), (2, .ptr 0 0), (3, .bad), (4, .bad), (5, .ptr 1 0), (6, .ptr 2 0), (7, .bad), (8, .bad), (9, .bad), (10, .bad), (27, .bad), (51, .bad), (80, .bad), (105, .bad), (115, .bad)], [], [(0, .box [.int .i64 (0 : Int), .nil, .nil]), (1, .box [sl (ci .u8) r_0_5, .int .i64 r_1_6]), (2, .box [.int .i64 r0.1, .own 7 3 0 p_1_1.length false, .own 6 4 0 p_2_1.length false]), (3, .arr 7 (List.map TMail.c p_1_1) 0), (4, .arr 6 (List.map TSub.c p_2_1) 0)], 5⟩ (qf_26 r) := by
  unfold m_post_Read_k7 at h
  refine Wp.seq (Wp.seq (regP (seqN ?_)))
  replace h := ifS h; rcases h with ⟨g29, h⟩ | ⟨g29, h⟩
  · replace h := retS h; subst h
    refine condTP (Wp.seq ?_)
    refine drawP [] mixed (clsN _) (seqN ?_)
    refine weakP [.cell 2 1 .frz, .cell 2 2 .frz, .at 3 .frz] (Wp.ret (seqR ?_))
    exact finP
  · replace h := retS h; subst h
    refine condFP (Wp.skip (seqN (Wp.seq ?_)))
    refine drawP [] mixed (clsN _) (seqN ?_)
    refine weakP [.cell 2 1 .frz, .cell 2 2 .frz] (Wp.ret ?_)
    exact finP
theorem w_m_post_Read_k6 {r0 : (Int × Treader)} {p_1_1 : (List TMail)} {r_0_5 : (List Int)} {r_1_5 : Int} {p_2_1 : (List TSub)} {r : (TPost × (List Int) × Int)}   (h : m_post_Read_k6 r0 p_1_1 r_0_5 r_1_5 p_2_1 = some r) : Wp Pg 126 0 (.seq (.seq (.reg none i26_R16) (.cond (.t 105) (.reg none i26_R17) .skip)) (.seq (.seq (.reg none i26_R18) (.cond (.t 115) (.seq (.reg (some [(4, 5)]) i26_R19) .ret) .skip)) (.seq (.reg (some [(4, 5)]) i26_R20) .ret))) ⟨[(0, .bad), (2, .ptr 0 0), (3, .bad), (4, .bad), (5, .ptr 1 0), (6, .ptr 2 0), (7, .bad), (8, .bad), (9, .bad), (10, .bad), (27, .bad), (51, .bad), (80, .bad), (105, .bad), (115, .bad)], [], [(0, .box [.int .i64 (0 : Int), .nil, .nil]), (1, .box [sl (ci .u8) r_0_5, .int .i64 r_1_5]), (2, .box [.int .i64 r0.1, .own 7 3 0 p_1_1.length false, .own 6 4 0 p_2_1.length false]), (3, .arr 7 (List.map TMail.c p_1_1) 0), (4, .arr 6 (List.map TSub.c p_2_1) 0)], 5⟩ (qf_26 r) := by
  unfold m_post_Read_k6 at h
  refine Wp.seq (Wp.seq (regP (seqN ?_)))
  replace h := ifS h; rcases h with ⟨g27, h⟩ | ⟨g27, h⟩
  · refine condTP (Wp.reg ?_)
    replace h := bndS h; obtain ⟨r0_17, g28, h⟩ := h
    refine chunkT 3 (tab_cons (w_m_post_Check g28) (tab_nil _)) ?_
    refine lastT (tab_nil _) (seqN ?_)
    exact jumpK [.kill [105]] (w_m_post_Read_k7 h)
  · refine condFP (Wp.skip (seqN ?_))
    exact jumpK [.kill [105]] (w_m_post_Read_k7 h)
theorem w_m_post_Read_k5 {r0 : (Int × Treader)} {p_1_1 : (List TMail)} {n0_1 : Int} {r_0_4 : (List Int)} {r_1_4 : Int} {p_2 : (List TSub)} {v80 : Bool} {r : (TPost × (List Int) × Int)} {rec_m_post_Read_l3 : Int → (List Int) → Int → (List TSub) → Option (TPost × (List Int) × Int)} (hrec_m_post_Read_l3 : H_m_post_Read_l3 r0 p_1_1 rec_m_post_Read_l3 r) (h : m_post_Read_k5 rec_m_post_Read_l3 r0 p_1_1 n0_1 r_0_4 r_1_4 p_2 v80 = some r) : Wp Pg 126 0 (.cond (.t 80) .skip (.out 4)) ⟨[(0, .bad), (2, .ptr 0 0), (3, .bad), (4, .bad), (5, .ptr 1 0), (6, .ptr 2 0), (7, .bad), (8, .bad), (9, .bad), (10, .int .i64 n0_1), (27, .bad), (51, .bad), (80, .bool v80), (105, .bad), (115, .bad)], [], [(0, .box [.int .i64 (0 : Int), .nil, .nil]), (1, .box [sl (ci .u8) r_0_4, .int .i64 r_1_4]), (2, .box [.int .i64 r0.1, .own 7 3 0 p_1_1.length false, .own 6 4 0 p_2.length false]), (3, .arr 7 (List.map TMail.c p_1_1) 0), (4, .arr 6 (List.map TSub.c p_2) 0)], 5⟩ (seqQ Pg 126 0 (.seq (.block 5 (.reg (some [(1, 3), (1, 5), (1, 7), (1, 9), (1, 11), (1, 13), (1, 15)]) i26_R14)) (.reg none i26_R15)) (loopQ Pg 126 0 i26_L2 (blockQ 4 (seqQ Pg 126 0 (.seq (.seq (.reg none i26_R16) (.cond (.t 105) (.reg none i26_R17) .skip)) (.seq (.seq (.reg none i26_R18) (.cond (.t 115) (.seq (.reg (some [(4, 5)]) i26_R19) .ret) .skip)) (.seq (.reg (some [(4, 5)]) i26_R20) .ret))) (qf_26 r))))) := by
  unfold m_post_Read_k5 at h
  replace h := ifS h; rcases h with ⟨g19, h⟩ | ⟨g19, h⟩
  · refine condTP (Wp.skip (seqN (Wp.seq (Wp.block ?_))))
    replace h := bndS h; obtain ⟨r0_11, g20, h⟩ := h
    replace h := bndS h; obtain ⟨r0_12, g21, h⟩ := h
    replace h := bndS h; obtain ⟨r0_13, g22, h⟩ := h
    replace h := bndS h; obtain ⟨r0_14, g23, h⟩ := h
    replace h := bndS h; obtain ⟨r0_15, g24, h⟩ := h
    replace h := bndS h; obtain ⟨r0_16, g25, h⟩ := h
    replace h := reqS h; obtain ⟨g26, h⟩ := h
    refine drawP [70, 71, 72] mixed (clsC 3 (tab_cons (w_m_post_reader_next g20) (tab_nil _)) (clsC 5 (tab_cons (w_m_post_reader_next g21) (tab_nil _)) (clsC 7 (tab_cons (w_m_post_reader_next g22) (tab_nil _)) (clsC 9 (tab_cons (w_m_post_reader_name g23) (tab_nil _)) (clsC 11 (tab_cons (w_m_post_reader_key g24) (tab_nil _)) (clsC 13 (tab_cons (w_m_post_reader_next g25) (tab_nil _)) (clsN _))))))) ?_
    refine blockN (seqN (regP (loopN ?_)))
    exact jumpL [.kill [80], .tidy] (hrec_m_post_Read_l3 h)
  · refine condFP (Wp.out (seqO (loopO (blockO (seqN ?_)))))
    exact jumpK [.kill [10, 80]] (w_m_post_Read_k6 h)
theorem w_m_post_Read_l3_B {r0 : (Int × Treader)} {p_1_1 : (List TMail)} {r : (TPost × (List Int) × Int)}   {rec_m_post_Read_l3 : Int → (List Int) → Int → (List TSub) → Option (TPost × (List Int) × Int)} (hrec_m_post_Read_l3 : H_m_post_Read_l3 r0 p_1_1 rec_m_post_Read_l3 r) {n0_1 : Int} {r_0_4 : (List Int)} {r_1_4 : Int} {p_2 : (List TSub)} (h : m_post_Read_l3_B  r0 p_1_1 rec_m_post_Read_l3 n0_1 r_0_4 r_1_4 p_2 = some r) : LWp Pg 126 0 i26_L2 ⟨[(0, .bad), (2, .ptr 0 0), (3, .bad), (4, .bad), (5, .ptr 1 0), (6, .ptr 2 0), (7, .bad), (8, .bad), (9, .bad), (10, .int .i64 n0_1), (27, .bad), (51, .bad), (80, .bad), (105, .bad), (115, .bad)], [], [(0, .box [.int .i64 (0 : Int), .nil, .nil]), (1, .box [sl (ci .u8) r_0_4, .int .i64 r_1_4]), (2, .box [.int .i64 r0.1, .own 7 3 0 p_1_1.length false, .own 6 4 0 p_2.length false]), (3, .arr 7 (List.map TMail.c p_1_1) 0), (4, .arr 6 (List.map TSub.c p_2) 0)], 5⟩ (blockQ 4 (seqQ Pg 126 0 (.seq (.seq (.reg none i26_R16) (.cond (.t 105) (.reg none i26_R17) .skip)) (.seq (.seq (.reg none i26_R18) (.cond (.t 115) (.seq (.reg (some [(4, 5)]) i26_R19) .ret) .skip)) (.seq (.reg (some [(4, 5)]) i26_R20) .ret))) (qf_26 r))) := by
  unfold m_post_Read_l3_B at h
  refine LWp.stepC i26_L2.eq_1 ?_
  refine Wp.seq (Wp.seq ?_)
  replace h := ifS h; rcases h with ⟨g18, h⟩ | ⟨g18, h⟩
  · refine regP (seqN ?_)
    exact jumpK [] (w_m_post_Read_k5 hrec_m_post_Read_l3 h)
  · refine regP (seqN ?_)
    exact jumpK [] (w_m_post_Read_k5 hrec_m_post_Read_l3 h)
theorem w_m_post_Read_l3 {r0 : (Int × Treader)} {p_1_1 : (List TMail)} {r : (TPost × (List Int) × Int)}   : ∀ (n : Nat), H_m_post_Read_l3 r0 p_1_1 (m_post_Read_l3  r0 p_1_1 n) r := by
  intro n
  induction n with
  | zero => intro n0_1 r_0_4 r_1_4 p_2 h; unfold m_post_Read_l3 at h; cases h
  | succ n ih => intro n0_1 r_0_4 r_1_4 p_2 h; unfold m_post_Read_l3 at h; exact w_m_post_Read_l3_B  ih h
theorem w_m_post_Read_k4 {r0 : (Int × Treader)} {r_0_3 : (List Int)} {r_1_3 : Int} {p_1_1 : (List TMail)} {r : (TPost × (List Int) × Int)}   (h : m_post_Read_k4 r0 r_0_3 r_1_3 p_1_1 = some r) : Wp Pg 126 0 (.seq (.seq (.reg none i26_R12) (.block 4 (.loop i26_L2))) (.seq (.seq (.reg none i26_R16) (.cond (.t 105) (.reg none i26_R17) .skip)) (.seq (.seq (.reg none i26_R18) (.cond (.t 115) (.seq (.reg (some [(4, 5)]) i26_R19) .ret) .skip)) (.seq (.reg (some [(4, 5)]) i26_R20) .ret)))) ⟨[(0, .bad), (2, .ptr 0 0), (3, .bad), (4, .bad), (5, .ptr 1 0), (6, .ptr 2 0), (7, .bad), (8, .bad), (9, .bad), (10, .bad), (27, .bad), (51, .bad), (80, .bad), (105, .bad), (115, .bad)], [], [(0, .box [.int .i64 (0 : Int), .nil, .nil]), (1, .box [sl (ci .u8) r_0_3, .int .i64 r_1_3]), (2, .box [.int .i64 r0.1, .own 7 3 0 p_1_1.length false, .nil]), (3, .arr 7 (List.map TMail.c p_1_1) 0)], 4⟩ (qf_26 r) := by
  unfold m_post_Read_k4 at h
  refine Wp.seq (Wp.seq (Wp.reg ?_))
  replace h := bndS h; obtain ⟨r0_10, g17, h⟩ := h
  refine chunkF 2 (tab_cons (w_m_post_reader_next g17) (tab_nil _)) ?_
  refine lastT (tab_nil _) (seqN (Wp.block (Wp.loop ?_)))
  exact jumpL [.cell 6 2 (.virt 6), .tidy] (w_m_post_Read_l3 _ h)
theorem w_m_post_Read_k3 {r0 : (Int × Treader)} {n0 : Int} {p_1 : (List TMail)} {r0_2 : (Int × Treader)} {r0_3 : (ByteArray × Treader)} {r0_4 : (Int × Treader)} {r0_5 : (TVars × Treader)} {r0_6 : (Int × Treader)} {r_0_2 : (List Int)} {r_1_2 : Int} {m_60_1 : (List TWho)} {r : (TPost × (List Int) × Int)} {rec_m_post_Read_l1 : Int → (List Int) → Int → (List TMail) → Option (TPost × (List Int) × Int)} (hrec_m_post_Read_l1 : H_m_post_Read_l1 r0 rec_m_post_Read_l1 r) (h : m_post_Read_k3 rec_m_post_Read_l1 n0 p_1 r0_2 r0_3 r0_4 r0_5 r0_6 r_0_2 r_1_2 m_60_1 = some r) : Wp Pg 126 0 (.reg none i26_R10) ⟨[(0, .bad), (2, .ptr 0 0), (3, .bad), (4, .bad), (5, .ptr 1 0), (6, .ptr 2 0), (7, .int .i64 n0), (8, .ptr 4 0), (9, .bad), (10, .bad), (27, .bad), (51, .bad), (80, .bad), (105, .bad), (115, .bad)], [], (hp19 (0 : Int) r_0_2 r_1_2 r0.1 p_1 r0_2.1 r0_3.1 r0_4.1 r0_5.1.Names r0_5.1.Vals r0_6.1 m_60_1), 6⟩ (blockQ 1 (seqQ Pg 126 0 (.reg none i26_R11) (loopQ Pg 126 0 i26_L1 (blockQ 0 (seqQ Pg 126 0 (.seq (.seq (.reg none i26_R12) (.block 4 (.loop i26_L2))) (.seq (.seq (.reg none i26_R16) (.cond (.t 105) (.reg none i26_R17) .skip)) (.seq (.seq (.reg none i26_R18) (.cond (.t 115) (.seq (.reg (some [(4, 5)]) i26_R19) .ret) .skip)) (.seq (.reg (some [(4, 5)]) i26_R20) .ret)))) (qf_26 r)))))) := by
  unfold m_post_Read_k3 at h
  replace h := reqS h; obtain ⟨g16, h⟩ := h
  refine regP (blockN (seqN ?_))
  refine regP (loopN ?_)
  exact jumpL [.kill [8], .tidy] (hrec_m_post_Read_l1 h)
theorem w_m_post_Read_k2 {r0 : (Int × Treader)} {n0 : Int} {p_1 : (List TMail)} {r0_2 : (Int × Treader)} {r0_3 : (ByteArray × Treader)} {r0_4 : (Int × Treader)} {r0_5 : (TVars × Treader)} {r0_6 : (Int × Treader)} {k : Int} {r_0_1 : (List Int)} {r_1_1 : Int} {m_60 : (List TWho)} {v51 : Bool} {r : (TPost × (List Int) × Int)} {rec_m_post_Read_l2 : Int → (List Int) → Int → (List TWho) → Option (TPost × (List Int) × Int)} {rec_m_post_Read_l1 : Int → (List Int) → Int → (List TMail) → Option (TPost × (List Int) × Int)} (hrec_m_post_Read_l2 : H_m_post_Read_l2 r0 n0 p_1 r0_2 r0_3 r0_4 r0_5 r0_6 rec_m_post_Read_l2 r) (hrec_m_post_Read_l1 : H_m_post_Read_l1 r0 rec_m_post_Read_l1 r) (h : m_post_Read_k2 rec_m_post_Read_l2 rec_m_post_Read_l1 n0 p_1 r0_2 r0_3 r0_4 r0_5 r0_6 k r_0_1 r_1_1 m_60 v51 = some r) : Wp Pg 126 0 (.cond (.t 51) .skip (.out 2)) ⟨[(0, .bad), (2, .ptr 0 0), (3, .bad), (4, .bad), (5, .ptr 1 0), (6, .ptr 2 0), (7, .int .i64 n0), (8, .ptr 4 0), (9, .int .i64 k), (10, .bad), (27, .bad), (51, .bool v51), (80, .bad), (105, .bad), (115, .bad)], [], (hp19 (0 : Int) r_0_1 r_1_1 r0.1 p_1 r0_2.1 r0_3.1 r0_4.1 r0_5.1.Names r0_5.1.Vals r0_6.1 m_60), 6⟩ (seqQ Pg 126 0 (.seq (.block 3 (.reg (some [(1, 3), (1, 5), (1, 7)]) i26_R8)) (.reg none i26_R9)) (loopQ Pg 126 0 i26_L0 (blockQ 2 (seqQ Pg 126 0 (.reg none i26_R10) (blockQ 1 (seqQ Pg 126 0 (.reg none i26_R11) (loopQ Pg 126 0 i26_L1 (blockQ 0 (seqQ Pg 126 0 (.seq (.seq (.reg none i26_R12) (.block 4 (.loop i26_L2))) (.seq (.seq (.reg none i26_R16) (.cond (.t 105) (.reg none i26_R17) .skip)) (.seq (.seq (.reg none i26_R18) (.cond (.t 115) (.seq (.reg (some [(4, 5)]) i26_R19) .ret) .skip)) (.seq (.reg (some [(4, 5)]) i26_R20) .ret)))) (qf_26 r)))))))))) := by
  unfold m_post_Read_k2 at h
  replace h := ifS h; rcases h with ⟨g12, h⟩ | ⟨g12, h⟩
  · refine condTP (Wp.skip (seqN (Wp.seq (Wp.block ?_))))
    replace h := bndS h; obtain ⟨r0_8, g13, h⟩ := h
    replace h := bndS h; obtain ⟨r0_9, g14, h⟩ := h
    replace h := reqS h; obtain ⟨g15, h⟩ := h
    refine drawP [70] mixed (clsC 3 (tab_cons (w_m_post_reader_next g13) (tab_nil _)) (clsC 5 (tab_cons (w_m_post_reader_next g14) (tab_nil _)) (clsN _))) (blockN (seqN ?_))
    refine regP (loopN ?_)
    exact jumpL [.kill [51], .tidy] (hrec_m_post_Read_l2 h)
  · refine condFP (Wp.out (seqO (loopO (blockO (seqN ?_)))))
    exact jumpK [.kill [9, 51]] (w_m_post_Read_k3 (r0 := r0) hrec_m_post_Read_l1 h)
theorem w_m_post_Read_l2_B {r0 : (Int × Treader)} {n0 : Int} {p_1 : (List TMail)} {r0_2 : (Int × Treader)} {r0_3 : (ByteArray × Treader)} {r0_4 : (Int × Treader)} {r0_5 : (TVars × Treader)} {r0_6 : (Int × Treader)} {r : (TPost × (List Int) × Int)} {rec_m_post_Read_l1 : Int → (List Int) → Int → (List TMail) → Option (TPost × (List Int) × Int)} (hrec_m_post_Read_l1 : H_m_post_Read_l1 r0 rec_m_post_Read_l1 r) {rec_m_post_Read_l2 : Int → (List Int) → Int → (List TWho) → Option (TPost × (List Int) × Int)} (hrec_m_post_Read_l2 : H_m_post_Read_l2 r0 n0 p_1 r0_2 r0_3 r0_4 r0_5 r0_6 rec_m_post_Read_l2 r) {k : Int} {r_0_1 : (List Int)} {r_1_1 : Int} {m_60 : (List TWho)} (h : m_post_Read_l2_B rec_m_post_Read_l1 n0 p_1 r0_2 r0_3 r0_4 r0_5 r0_6 rec_m_post_Read_l2 k r_0_1 r_1_1 m_60 = some r) : LWp Pg 126 0 i26_L0 ⟨[(0, .bad), (2, .ptr 0 0), (3, .bad), (4, .bad), (5, .ptr 1 0), (6, .ptr 2 0), (7, .int .i64 n0), (8, .ptr 4 0), (9, .int .i64 k), (10, .bad), (27, .bad), (51, .bad), (80, .bad), (105, .bad), (115, .bad)], [], (hp19 (0 : Int) r_0_1 r_1_1 r0.1 p_1 r0_2.1 r0_3.1 r0_4.1 r0_5.1.Names r0_5.1.Vals r0_6.1 m_60), 6⟩ (blockQ 2 (seqQ Pg 126 0 (.reg none i26_R10) (blockQ 1 (seqQ Pg 126 0 (.reg none i26_R11) (loopQ Pg 126 0 i26_L1 (blockQ 0 (seqQ Pg 126 0 (.seq (.seq (.reg none i26_R12) (.block 4 (.loop i26_L2))) (.seq (.seq (.reg none i26_R16) (.cond (.t 105) (.reg none i26_R17) .skip)) (.seq (.seq (.reg none i26_R18) (.cond (.t 115) (.seq (.reg (some [(4, 5)]) i26_R19) .ret) .skip)) (.seq (.reg (some [(4, 5)]) i26_R20) .ret)))) (qf_26 r)))))))) := by
  unfold m_post_Read_l2_B at h
  refine LWp.stepC i26_L0.eq_1 ?_
  refine Wp.seq (Wp.seq ?_)
  replace h := ifS h; rcases h with ⟨g11, h⟩ | ⟨g11, h⟩
  · refine regP (seqN ?_)
    exact jumpK [] (w_m_post_Read_k2 (r0 := r0) hrec_m_post_Read_l2 hrec_m_post_Read_l1 h)
  · refine regP (seqN ?_)
    exact jumpK [] (w_m_post_Read_k2 (r0 := r0) hrec_m_post_Read_l2 hrec_m_post_Read_l1 h)
theorem w_m_post_Read_l2 {r0 : (Int × Treader)} {n0 : Int} {p_1 : (List TMail)} {r0_2 : (Int × Treader)} {r0_3 : (ByteArray × Treader)} {r0_4 : (Int × Treader)} {r0_5 : (TVars × Treader)} {r0_6 : (Int × Treader)} {r : (TPost × (List Int) × Int)} {rec_m_post_Read_l1 : Int → (List Int) → Int → (List TMail) → Option (TPost × (List Int) × Int)} (hrec_m_post_Read_l1 : H_m_post_Read_l1 r0 rec_m_post_Read_l1 r) : ∀ (n : Nat), H_m_post_Read_l2 r0 n0 p_1 r0_2 r0_3 r0_4 r0_5 r0_6 (m_post_Read_l2 rec_m_post_Read_l1 n0 p_1 r0_2 r0_3 r0_4 r0_5 r0_6 n) r := by
  intro n
  induction n with
  | zero => intro k r_0_1 r_1_1 m_60 h; unfold m_post_Read_l2 at h; cases h
  | succ n ih => intro k r_0_1 r_1_1 m_60 h; unfold m_post_Read_l2 at h; exact w_m_post_Read_l2_B (r0 := r0) hrec_m_post_Read_l1 ih h
theorem w_m_post_Read_k1 {r0 : (Int × Treader)} {n0 : Int} {r_0 : (List Int)} {r_1 : Int} {p_1 : (List TMail)} {v27 : Bool} {r : (TPost × (List Int) × Int)} {rec_m_post_Read_l1 : Int → (List Int) → Int → (List TMail) → Option (TPost × (List Int) × Int)} (hrec_m_post_Read_l1 : H_m_post_Read_l1 r0 rec_m_post_Read_l1 r) (h : m_post_Read_k1 rec_m_post_Read_l1 r0 n0 r_0 r_1 p_1 v27 = some r) : Wp Pg 126 0 (.cond (.t 27) .skip (.out 0)) ⟨[(0, .bad), (2, .ptr 0 0), (3, .bad), (4, .bad), (5, .ptr 1 0), (6, .ptr 2 0), (7, .int .i64 n0), (8, .bad), (9, .bad), (10, .bad), (27, .bool v27), (51, .bad), (80, .bad), (105, .bad), (115, .bad)], [], [(0, .box [.int .i64 (0 : Int), .nil, .nil]), (1, .box [sl (ci .u8) r_0, .int .i64 r_1]), (2, .box [.int .i64 r0.1, .own 7 3 0 p_1.length false, .nil]), (3, .arr 7 (List.map TMail.c p_1) 0)], 4⟩ (seqQ Pg 126 0 (.seq (.block 1 (.seq (.reg none i26_R5) (.seq (.seq (.reg none i26_R6) (.block 2 (.loop i26_L0))) (.reg none i26_R10)))) (.reg none i26_R11)) (loopQ Pg 126 0 i26_L1 (blockQ 0 (seqQ Pg 126 0 (.seq (.seq (.reg none i26_R12) (.block 4 (.loop i26_L2))) (.seq (.seq (.reg none i26_R16) (.cond (.t 105) (.reg none i26_R17) .skip)) (.seq (.seq (.reg none i26_R18) (.cond (.t 115) (.seq (.reg (some [(4, 5)]) i26_R19) .ret) .skip)) (.seq (.reg (some [(4, 5)]) i26_R20) .ret)))) (qf_26 r))))) := by
  unfold m_post_Read_k1 at h
  replace h := ifS h; rcases h with ⟨g4, h⟩ | ⟨g4, h⟩
  · refine condTP (Wp.skip (seqN (Wp.seq (Wp.block (Wp.seq (Wp.reg ?_))))))
    replace h := bndS h; obtain ⟨r0_2, g5, h⟩ := h
    refine chunkF 2 (tab_cons (w_m_post_reader_next g5) (tab_nil _)) ?_
    replace h := bndS h; obtain ⟨r0_3, g6, h⟩ := h
    refine chunkF 2 (tab_cons (w_m_post_reader_name g6) (tab_nil _)) ?_
    replace h := bndS h; obtain ⟨r0_4, g7, h⟩ := h
    refine chunkF 2 (tab_cons (w_m_post_reader_key g7) (tab_nil _)) ?_
    replace h := bndS h; obtain ⟨r0_5, g8, h⟩ := h
    refine chunkF 2 (tab_cons (w_m_post_reader_vars g8) (tab_nil _)) ?_
    replace h := bndS h; obtain ⟨r0_6, g9, h⟩ := h
    refine chunkF 2 (tab_cons (w_m_post_reader_next g9) (tab_nil _)) ?_
    refine lastT (tab_nil _) (seqN (Wp.seq (Wp.seq (Wp.reg ?_))))
    replace h := bndS h; obtain ⟨r0_7, g10, h⟩ := h
    refine chunkF 2 (tab_cons (w_m_post_reader_next g10) (tab_nil _)) ?_
    refine lastT (tab_nil _) (seqN (Wp.block (Wp.loop ?_)))
    exact jumpL [.kill [27], .cell 8 6 (.virt 2), .tidy] (w_m_post_Read_l2 (r0 := r0) hrec_m_post_Read_l1 _ h)
  · refine condFP (Wp.out (seqO (loopO (blockO (seqN ?_)))))
    exact jumpK [.kill [7, 27]] (w_m_post_Read_k4 h)
theorem w_m_post_Read_l1_B {r0 : (Int × Treader)} {r : (TPost × (List Int) × Int)}   {rec_m_post_Read_l1 : Int → (List Int) → Int → (List TMail) → Option (TPost × (List Int) × Int)} (hrec_m_post_Read_l1 : H_m_post_Read_l1 r0 rec_m_post_Read_l1 r) {n0 : Int} {r_0 : (List Int)} {r_1 : Int} {p_1 : (List TMail)} (h : m_post_Read_l1_B  r0 rec_m_post_Read_l1 n0 r_0 r_1 p_1 = some r) : LWp Pg 126 0 i26_L1 ⟨[(0, .bad), (2, .ptr 0 0), (3, .bad), (4, .bad), (5, .ptr 1 0), (6, .ptr 2 0), (7, .int .i64 n0), (8, .bad), (9, .bad), (10, .bad), (27, .bad), (51, .bad), (80, .bad), (105, .bad), (115, .bad)], [], [(0, .box [.int .i64 (0 : Int), .nil, .nil]), (1, .box [sl (ci .u8) r_0, .int .i64 r_1]), (2, .box [.int .i64 r0.1, .own 7 3 0 p_1.length false, .nil]), (3, .arr 7 (List.map TMail.c p_1) 0)], 4⟩ (blockQ 0 (seqQ Pg 126 0 (.seq (.seq (.reg none i26_R12) (.block 4 (.loop i26_L2))) (.seq (.seq (.reg none i26_R16) (.cond (.t 105) (.reg none i26_R17) .skip)) (.seq (.seq (.reg none i26_R18) (.cond (.t 115) (.seq (.reg (some [(4, 5)]) i26_R19) .ret) .skip)) (.seq (.reg (some [(4, 5)]) i26_R20) .ret)))) (qf_26 r))) := by
  unfold m_post_Read_l1_B at h
  refine LWp.stepC i26_L1.eq_1 ?_
  refine Wp.seq (Wp.seq ?_)
  replace h := ifS h; rcases h with ⟨g3, h⟩ | ⟨g3, h⟩
  · refine regP (seqN ?_)
    exact jumpK [] (w_m_post_Read_k1 hrec_m_post_Read_l1 h)
  · refine regP (seqN ?_)
    exact jumpK [] (w_m_post_Read_k1 hrec_m_post_Read_l1 h)
theorem w_m_post_Read_l1 {r0 : (Int × Treader)} {r : (TPost × (List Int) × Int)}   : ∀ (n : Nat), H_m_post_Read_l1 r0 (m_post_Read_l1  r0 n) r := by
  intro n
  induction n with
  | zero => intro n0 r_0 r_1 p_1 h; unfold m_post_Read_l1 at h; cases h
  | succ n ih => intro n0 r_0 r_1 p_1 h; unfold m_post_Read_l1 at h; exact w_m_post_Read_l1_B  ih h
theorem w_m_post_Read {b : (List Int)} {r : (TPost × (List Int) × Int)}   (h : m_post_Read b = some r) : Spec Pg 26 [sl (ci .u8) b] [] 0 (.tup [.agg [.int .i64 r.1.Next, sl TMail.c r.1.Mails, sl TSub.c r.1.Subs], sl (ci .u8) r.2.1, .int .i64 r.2.2]) [] 0 := by
  refine Spec.intro Try.func26 i26_ok (le_of_ble rfl) ?_
  show Wp Pg 126 0 i26_B ⟨argEnv _ i26_V, [], _, _⟩ (qf_26 r)
  unfold m_post_Read at h
  unfold i26_B
  refine weakP [] ?_
  refine Wp.seq (regP (seqN (Wp.seq ?_)))
  refine regP (seqN (Wp.seq (Wp.reg ?_)))
  replace h := bndS h; obtain ⟨r0, g1, h⟩ := h
  refine chunkF 2 (tab_cons (w_m_post_reader_next g1) (tab_nil _)) ?_
  refine lastT (tab_nil _) (seqN (Wp.seq (Wp.seq (Wp.reg ?_))))
  replace h := bndS h; obtain ⟨r0_1, g2, h⟩ := h
  refine chunkF 2 (tab_cons (w_m_post_reader_next g2) (tab_nil _)) ?_
  refine lastT (tab_nil _) (seqN (Wp.block (Wp.loop ?_)))
  exact jumpL [.kill [0, 3, 4, 8, 9, 10, 27, 51, 80, 105, 115], .cell 6 1 (.virt 7), .tidy] (w_m_post_Read_l1 _ h)
/-! funicular/funicularref02.Same -/
noncomputable abbrev qf_28 (r : Bool) : Ex → St → Prop := FinQ 0 [.tmp 4] (.bool r) [] 0
theorem w_m_ref02_Same {a : (List Int)} {b : (List Int)} {r : Bool}   (h : m_ref02_Same a b = some r) : Spec Pg 28 [sl (ci .u8) a, sl (ci .u8) b] [] 0 (.bool r) [] 0 := by
  refine Spec.intro Try.func28 i28_ok (le_of_ble rfl) ?_
  show Wp Pg 10 0 i28_B ⟨argEnv _ i28_V, [], _, _⟩ (qf_28 r)
  unfold m_ref02_Same at h
  unfold i28_B
  refine weakP [] ?_
  replace h := retS h; subst h
  refine Wp.seq (regP (seqN (Wp.seq ?_)))
  refine regP (seqN (Wp.ret ?_))
  exact finP
theorem w_m_law22_works {r : Bool} (h : m_law22_works = some r) : Spec Pg 9 [] [] 0 (.bool r) [] 0 := by
  obtain rfl := retS h
  exact m_law22_works_spec
/-! funicular/funicularlaw22.PostBack -/
noncomputable abbrev qf_5 (r : Bool) : Ex → St → Prop := FinQ 0 [.tmp 4] (.bool r) [] 0
theorem w_m_law22_PostBack_k2 {b : (List Int)} {r : Bool}   (h : m_law22_PostBack_k2 b = some r) : Wp Pg 59 0 (.seq (.reg none i5_R7) (.seq (.reg none i5_R8) .ret)) ⟨[(0, .bad), (1, sl (ci .u8) b), (2, .bad), (4, .bad), (5, .bad), (6, .bad), (7, .bad), (8, .bad), (9, .bad), (10, .bad), (13, .bad), (16, .bad), (39, .bad)], [], [], 0⟩ (qf_5 r) := by
  unfold m_law22_PostBack_k2 at h
  refine Wp.seq (Wp.reg ?_)
  replace h := bndS h; obtain ⟨r0_6, g13, h⟩ := h
  refine chunkT 2 (tab_cons (w_m_post_Read g13) (tab_nil _)) ?_
  refine lastT (tab_nil _) (seqN (Wp.seq (Wp.reg ?_)))
  replace h := ifS h; rcases h with ⟨g14, h⟩ | ⟨g14, h⟩
  · replace h := bndS h; obtain ⟨r0_7, g15, h⟩ := h
    replace h := retS h; subst h
    refine chunkT 12 (tab_cons (w_m_law22_works g15) (tab_nil _)) ?_
    refine lastT (tab_nil _) (seqN (Wp.ret ?_))
    exact finP
  · replace h := bndS h; obtain ⟨r0_8, g16, h⟩ := h
    refine chunkF 5 (tab_cons (w_m_post_Put g16) (tab_nil _)) ?_
    replace h := reqS h; obtain ⟨g17, h⟩ := h
    replace h := bndS h; obtain ⟨r0_9, g18, h⟩ := h
    refine chunkT 4 (tab_cons (w_m_ref02_Same g18) (tab_nil _)) ?_
    replace h := ifS h; rcases h with ⟨g19, h⟩ | ⟨g19, h⟩
    · replace h := bndS h; obtain ⟨r0_10, g20, h⟩ := h
      replace h := retS h; subst h
      refine chunkT 3 (tab_cons (w_m_law22_works g20) (tab_nil _)) ?_
      refine lastT (tab_nil _) (seqN (Wp.ret ?_))
      exact finP
    · replace h := retS h; subst h
      refine lastT (tab_nil _) (seqN (Wp.ret ?_))
      exact finP
theorem w_m_law22_PostBack_k1 {b : (List Int)} {v39 : Bool} {r : Bool}   (h : m_law22_PostBack_k1 b v39 = some r) : Wp Pg 59 0 (.cond (.t 39) (.seq (.reg none i5_R6) .ret) .skip) ⟨[(0, .bad), (1, sl (ci .u8) b), (2, .bad), (4, .bad), (5, .bad), (6, .bad), (7, .bad), (8, .bad), (9, .bad), (10, .bad), (13, .bad), (16, .bad), (39, .bool v39)], [], [], 0⟩ (seqQ Pg 59 0 (.seq (.reg none i5_R7) (.seq (.reg none i5_R8) .ret)) (qf_5 r)) := by
  unfold m_law22_PostBack_k1 at h
  replace h := ifS h; rcases h with ⟨g12, h⟩ | ⟨g12, h⟩
  · replace h := retS h; subst h
    refine condTP (Wp.seq ?_)
    refine regP (seqN (Wp.ret (seqR ?_)))
    exact finP
  · refine condFP (Wp.skip (seqN ?_))
    exact jumpK [.kill [39]] (w_m_law22_PostBack_k2 h)
theorem w_m_law22_PostBack {p : TPost} {b : (List Int)} {r : Bool}   (h : m_law22_PostBack p b = some r) : Spec Pg 5 [.agg [.int .i64 p.Next, sl TMail.c p.Mails, sl TSub.c p.Subs], sl (ci .u8) b] [] 0 (.bool r) [] 0 := by
  refine Spec.intro Try.func5 i5_ok (le_of_ble rfl) ?_
  show Wp Pg 59 0 i5_B ⟨argEnv _ i5_V, [], _, _⟩ (qf_5 r)
  unfold m_law22_PostBack at h
  unfold i5_B
  refine weakP [] ?_
  refine Wp.seq (regP (seqN (Wp.seq (Wp.seq ?_))))
  refine regP (seqN ?_)
  replace h := ifS h; rcases h with ⟨g1, h⟩ | ⟨g1, h⟩
  · refine condTP (Wp.seq (Wp.reg ?_))
    replace h := bndS h; obtain ⟨r0, g2, h⟩ := h
    replace h := retS h; subst h
    refine chunkT 1 (tab_cons (w_m_law22_works g2) (tab_nil _)) ?_
    refine lastT (tab_nil _) (seqN (Wp.ret (seqR ?_)))
    exact finP
  · refine condFP (Wp.skip (seqN (Wp.seq (Wp.seq (Wp.reg ?_)))))
    replace h := bndS h; obtain ⟨r0_1, g3, h⟩ := h
    refine lastT (tab_cons (w_m_law22_may g3) (tab_nil _)) (seqN ?_)
    replace h := ifS h; rcases h with ⟨g4, h⟩ | ⟨g4, h⟩
    · refine condTP (Wp.seq (Wp.reg ?_))
      replace h := bndS h; obtain ⟨r0_2, g5, h⟩ := h
      refine chunkF 2 (tab_cons (w_m_post_Put g5) (tab_nil _)) ?_
      replace h := reqS h; obtain ⟨g6, h⟩ := h
      replace h := bndS h; obtain ⟨r0_3, g7, h⟩ := h
      refine chunkT 3 (tab_cons (w_m_post_Read g7) (tab_nil _)) ?_
      refine lastT (tab_nil _) (seqN (Wp.seq (Wp.reg ?_)))
      replace h := ifS h; rcases h with ⟨g8, h⟩ | ⟨g8, h⟩
      · refine lastT (tab_nil _) (seqN ?_)
        exact jumpK [.kill [0, 2, 4, 5, 6, 7, 8, 9, 10, 13, 16], .tidy] (w_m_law22_PostBack_k1 h)
      · replace h := bndS h; obtain ⟨r0_4, g9, h⟩ := h
        refine chunkT 6 (tab_cons (w_m_ref22_Same g9) (tab_nil _)) ?_
        replace h := ifS h; rcases h with ⟨g10, h⟩ | ⟨g10, h⟩
        · replace h := bndS h; obtain ⟨r0_5, g11, h⟩ := h
          refine chunkT 6 (tab_cons (w_m_ref02_Same g11) (tab_nil _)) ?_
          refine lastT (tab_nil _) (seqN ?_)
          exact jumpK [.kill [0, 2, 4, 5, 6, 7, 8, 9, 10, 13, 16], .tidy] (w_m_law22_PostBack_k1 h)
        · refine lastT (tab_nil _) (seqN ?_)
          exact jumpK [.kill [0, 2, 4, 5, 6, 7, 8, 9, 10, 13, 16], .tidy] (w_m_law22_PostBack_k1 h)
    · refine condFP (Wp.skip (seqN ?_))
      exact jumpK [.kill [0, 2, 4, 5, 6, 7, 8, 9, 10, 13, 16, 39], .tidy] (w_m_law22_PostBack_k2 h)
end Go.Proofs.Ytefjblgmnoheiaa.R
