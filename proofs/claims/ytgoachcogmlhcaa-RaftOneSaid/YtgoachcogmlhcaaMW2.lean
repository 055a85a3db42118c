/- The program's functions answer what the models answer: 2. -/
import Derived.Test.YtgoachcogmlhcaaMW0
import Derived.Test.YtgoachcogmlhcaaMW1
set_option maxRecDepth 100000
set_option maxHeartbeats 1600000
set_option linter.unusedVariables false
set_option linter.unusedSimpArgs false
set_option linter.defProp false
noncomputable section
namespace Go.Proofs.Ytgoachcogmlhcaa.R
open Go Nat
noncomputable abbrev qf_48 (r : (TRaft × (List TMsg))) : Ex → St → Prop := FinQ 0 [.cell 4 true 16, .tmp 5] (.tup [.agg [.int .i64 r.1.Id, .int .i64 r.1.N, .int .i64 r.1.Term, .int .i64 r.1.Vote, .int .i64 r.1.Role, .int .i64 r.1.Lead, .int .i64 r.1.Log.Base, .int .i64 r.1.Log.BaseTerm, sl TEntry.c r.1.Log.Entries, .int .i64 r.1.Commit, sl (ci .u8) r.1.Snap, sl cb r.1.Granted, sl (ci .i64) r.1.Next, sl (ci .i64) r.1.Match, .int .i64 r.1.Clock, .int .i64 r.1.Wait], sl TMsg.c r.2]) [] 0
theorem w_m_raft_Receive_k6 {m_00_3 m_10_3 m_20_3 m_30_3 m_40_3 m_50_3 m_60_3 m_70_3 : Int} {m_80_3 : (List TEntry)} {m_90_3 m_140_3 m_150_3 : Int} {m_100_3 : (List Int)} {m_110_3 : (List Bool)} {m_120_3 m_130_3 : (List Int)} {m_160_3 : (List TMsg)} {r : (TRaft × (List TMsg))}   (h : m_raft_Receive_k6 m_00_3 m_10_3 m_20_3 m_30_3 m_40_3 m_50_3 m_60_3 m_70_3 m_80_3 m_90_3 m_140_3 m_150_3 m_100_3 m_110_3 m_120_3 m_130_3 m_160_3 = some r) : Wp Pg 180 0 (.seq (.reg none i48_R23) .ret) ⟨[(0, .bad), (1, .bad), (2, .bad), (3, .bad), (4, .ptr 0 0), (5, .bad), (6, .ptr 1 0), (56, .bad), (83, .bad), (89, .bad), (90, .bad), (95, .bad), (123, .bad), (126, .bad), (131, .bad), (158, .bad), (161, .bad), (166, .bad), (171, .bad)], [], (hp92 (0 : Int) (0 : Int) (0 : Int) (0 : Int) (0 : Int) (0 : Int) (0 : Int) (0 : Int) (0 : Int) (0 : Int) (0 : Int) m_00_3 m_10_3 m_20_3 m_30_3 m_40_3 m_50_3 m_60_3 m_70_3 m_80_3 m_90_3 m_100_3 m_110_3 m_120_3 m_130_3 m_140_3 m_150_3 m_160_3), 7⟩ (qf_48 r) := by
  unfold m_raft_Receive_k6 at h
  refine Wp.seq (Wp.reg ?_)
  replace h := bndS h; obtain ⟨r0_13, g39, h⟩ := h
  replace h := retS h; subst h
  refine chunkF 2 (tab_cons (w_m_raft_member_done g39) (tab_nil _)) ?_
  refine lastT (tab_nil _) (seqN ?_)
  refine weakP [.cell 4 10 .frz, .cell 4 11 .frz, .cell 4 12 .frz, .cell 4 13 .frz, .at 5 .frz] (Wp.ret ?_)
  exact finP
theorem w_m_raft_Receive_k5 {v158 : Bool} {m_00_2 m_10_2 m_20_2 m_30_2 m_40_2 m_50_2 m_60_2 m_70_2 m_90_2 m_140_2 m_150_2 : Int} {m_80_2 : (List TEntry)} {m_100_2 : (List Int)} {m_110_2 : (List Bool)} {m_120_2 m_130_2 : (List Int)} {m_160_2 : (List TMsg)} {r : (TRaft × (List TMsg))}   (h : m_raft_Receive_k5 v158 m_00_2 m_10_2 m_20_2 m_30_2 m_40_2 m_50_2 m_60_2 m_70_2 m_90_2 m_140_2 m_150_2 m_80_2 m_100_2 m_110_2 m_120_2 m_130_2 m_160_2 = some r) : Wp Pg 180 0 (.cond (.t 158) (.reg none i48_R16) .skip) ⟨[(0, .bad), (1, .bad), (2, .bad), (3, .bad), (4, .ptr 0 0), (5, .bad), (6, .ptr 1 0), (56, .bad), (83, .bad), (89, .bad), (90, .bad), (95, .bad), (123, .bad), (126, .bad), (131, .bad), (158, .bool v158), (161, .bad), (166, .bad), (171, .bad)], [], (hp10 (0 : Int) (0 : Int) (0 : Int) (0 : Int) (0 : Int) (0 : Int) (0 : Int) (0 : Int) (0 : Int) (0 : Int) (0 : Int) m_00_2 m_10_2 m_20_2 m_30_2 m_40_2 m_50_2 m_60_2 m_70_2 m_80_2 m_90_2 m_100_2 m_110_2 m_120_2 m_130_2 m_140_2 m_150_2 m_160_2), 8⟩ (blockQ 0 (seqQ Pg 180 0 (.seq (.reg none i48_R23) .ret) (qf_48 r))) := by
  unfold m_raft_Receive_k5 at h
  replace h := ifS h; rcases h with ⟨g31, h⟩ | ⟨g31, h⟩
  · refine condTP (Wp.reg ?_)
    replace h := bndS h; obtain ⟨r0_9, g32, h⟩ := h
    refine lastF (tab_cons (w_m_raft_member_lead_v1 g32) (tab_nil _)) (blockN (seqN ?_))
    exact jumpK [.kill [158], .tidy] (w_m_raft_Receive_k6 h)
  · refine condFP (Wp.skip (blockN (seqN ?_)))
    exact jumpK [.kill [158], .cell 6 8 .frz, .tidy] (w_m_raft_Receive_k6 h)
theorem w_m_raft_Receive_k4 {v123 : Bool} {m_00_1 m_10_1 m_20_1 m_30_1 m_40_1 m_50_1 m_60_1 m_70_1 m_90_1 m_140_1 m_150_1 : Int} {m_80_1 : (List TEntry)} {m_100_1 : (List Int)} {m_110_1 : (List Bool)} {m_120_1 m_130_1 : (List Int)} {m_160_1 : (List TMsg)} {r : (TRaft × (List TMsg))}   (h : m_raft_Receive_k4 v123 m_00_1 m_10_1 m_20_1 m_30_1 m_40_1 m_50_1 m_60_1 m_70_1 m_90_1 m_140_1 m_150_1 m_80_1 m_100_1 m_110_1 m_120_1 m_130_1 m_160_1 = some r) : Wp Pg 180 0 (.cond (.t 123) (.reg none i48_R11) .skip) ⟨[(0, .bad), (1, .bad), (2, .bad), (3, .bad), (4, .ptr 0 0), (5, .bad), (6, .ptr 1 0), (56, .bad), (83, .bad), (89, .bad), (90, .bad), (95, .bad), (123, .bool v123), (126, .bad), (131, .bad), (158, .bad), (161, .bad), (166, .bad), (171, .bad)], [], (hp10 (0 : Int) (0 : Int) (0 : Int) (0 : Int) (0 : Int) (0 : Int) (0 : Int) (0 : Int) (0 : Int) (0 : Int) (0 : Int) m_00_1 m_10_1 m_20_1 m_30_1 m_40_1 m_50_1 m_60_1 m_70_1 m_80_1 m_90_1 m_100_1 m_110_1 m_120_1 m_130_1 m_140_1 m_150_1 m_160_1), 8⟩ (blockQ 0 (seqQ Pg 180 0 (.seq (.reg none i48_R23) .ret) (qf_48 r))) := by
  unfold m_raft_Receive_k4 at h
  replace h := ifS h; rcases h with ⟨g22, h⟩ | ⟨g22, h⟩
  · refine condTP (Wp.reg ?_)
    replace h := bndS h; obtain ⟨r0_6, g23, h⟩ := h
    refine lastF (tab_cons (w_m_raft_member_stand_v1 g23) (tab_nil _)) (blockN (seqN ?_))
    exact jumpK [.kill [123], .tidy] (w_m_raft_Receive_k6 h)
  · refine condFP (Wp.skip (blockN (seqN ?_)))
    exact jumpK [.kill [123], .cell 6 8 .frz, .tidy] (w_m_raft_Receive_k6 h)
theorem w_m_raft_Receive_k3 {x0 : TMsg} {m_00 m_10 m_20 m_30 m_40 m_50 m_60 m_70 m_90 m_140 m_150 : Int} {m_80 : (List TEntry)} {m_100 : (List Int)} {m_110 : (List Bool)} {m_120 m_130 : (List Int)} {m_160 : (List TMsg)} {r : (TRaft × (List TMsg))}   (h : m_raft_Receive_k3 x0 m_00 m_10 m_20 m_30 m_40 m_50 m_60 m_70 m_90 m_140 m_150 m_80 m_100 m_110 m_120 m_130 m_160 = some r) : Wp Pg 180 0 (.seq (.seq (.reg none i48_R6) (.block 0 (.seq (.reg none i48_R7) (.cond (.t 90) (.reg none i48_R8) (.seq (.reg none i48_R9) (.cond (.t 95) (.seq (.reg (some []) i48_R10) (.cond (.t 123) (.reg none i48_R11) .skip)) (.seq (.reg none i48_R12) (.cond (.t 126) (.reg none i48_R13) (.seq (.reg none i48_R14) (.cond (.t 131) (.seq (.reg (some []) i48_R15) (.cond (.t 158) (.reg none i48_R16) .skip)) (.seq (.reg none i48_R17) (.cond (.t 161) (.reg none i48_R18) (.seq (.reg none i48_R19) (.cond (.t 166) (.reg none i48_R20) (.seq (.reg none i48_R21) (.cond (.t 171) (.reg none i48_R22) .skip)))))))))))))))) (.seq (.reg none i48_R23) .ret)) ⟨[(0, .bad), (1, .bad), (2, .bad), (3, .ptr 0 0), (4, .ptr 1 0), (5, .bad), (6, .ptr 2 0), (56, .bad), (83, .bad), (89, .bad), (90, .bad), (95, .bad), (123, .bad), (126, .bad), (131, .bad), (158, .bad), (161, .bad), (166, .bad), (171, .bad)], [], (hp100 x0.Kind x0.Group x0.From x0.To x0.Term x0.At x0.AtTerm x0.Commit x0.Ok x0.Entries x0.Data (0 : Int) (0 : Int) (0 : Int) (0 : Int) (0 : Int) (0 : Int) (0 : Int) (0 : Int) (0 : Int) (0 : Int) (0 : Int) m_00 m_10 m_20 m_30 m_40 m_50 m_60 m_70 m_80 m_90 m_100 m_110 m_120 m_130 m_140 m_150 m_160), 9⟩ (qf_48 r) := by
  unfold m_raft_Receive_k3 at h
  refine Wp.seq (Wp.seq (regP (seqN (Wp.block (Wp.seq ?_)))))
  refine regP (seqN ?_)
  replace h := ifS h; rcases h with ⟨g15, h⟩ | ⟨g15, h⟩
  · refine condTP (Wp.reg ?_)
    replace h := bndS h; obtain ⟨r0_4, g16, h⟩ := h
    refine lastF (tab_cons (w_m_raft_member_asked g16) (tab_nil _)) (blockN (seqN ?_))
    exact jumpK [.kill [3, 89, 90], .cell 6 8 .frz, .tidy] (w_m_raft_Receive_k6 h)
  · refine condFP (Wp.seq ?_)
    refine regP (seqN ?_)
    replace h := ifS h; rcases h with ⟨g17, h⟩ | ⟨g17, h⟩
    · refine condTP (Wp.seq ?_)
      replace h := ifS h; rcases h with ⟨g18, h⟩ | ⟨g18, h⟩
      · replace h := ifS h; rcases h with ⟨g19, h⟩ | ⟨g19, h⟩
        · replace h := ifS h; rcases h with ⟨g20, h⟩ | ⟨g20, h⟩
          · replace h := bndS h; obtain ⟨r0_5, g21, h⟩ := h
            refine drawP [68] mixed (clsC 25 (tab_cons (w_m_raft_member_grant_v1 g21) (tab_nil _)) (clsN _)) (seqN ?_)
            exact jumpK [.kill [3, 89, 90, 95], .tidy] (w_m_raft_Receive_k4 h)
          · refine drawP [] mixed (clsN _) (seqN ?_)
            exact jumpK [.kill [3, 89, 90, 95], .tidy] (w_m_raft_Receive_k4 h)
        · refine drawP [] mixed (clsN _) (seqN ?_)
          exact jumpK [.kill [3, 89, 90, 95], .tidy] (w_m_raft_Receive_k4 h)
      · refine drawP [] mixed (clsN _) (seqN ?_)
        exact jumpK [.kill [3, 89, 90, 95], .tidy] (w_m_raft_Receive_k4 h)
    · refine condFP (Wp.seq ?_)
      refine regP (seqN ?_)
      replace h := ifS h; rcases h with ⟨g24, h⟩ | ⟨g24, h⟩
      · refine condTP (Wp.reg ?_)
        replace h := bndS h; obtain ⟨r0_7, g25, h⟩ := h
        refine lastF (tab_cons (w_m_raft_member_vote g25) (tab_nil _)) (blockN (seqN ?_))
        exact jumpK [.kill [3, 89, 90, 95, 126], .cell 6 8 .frz, .tidy] (w_m_raft_Receive_k6 h)
      · refine condFP (Wp.seq ?_)
        refine regP (seqN ?_)
        replace h := ifS h; rcases h with ⟨g26, h⟩ | ⟨g26, h⟩
        · refine condTP (Wp.seq ?_)
          replace h := ifS h; rcases h with ⟨g27, h⟩ | ⟨g27, h⟩
          · replace h := ifS h; rcases h with ⟨g28, h⟩ | ⟨g28, h⟩
            · replace h := ifS h; rcases h with ⟨g29, h⟩ | ⟨g29, h⟩
              · replace h := bndS h; obtain ⟨r0_8, g30, h⟩ := h
                refine drawP [68] mixed (clsC 24 (tab_cons (w_m_raft_member_grant_v1 g30) (tab_nil _)) (clsN _)) (seqN ?_)
                exact jumpK [.kill [3, 89, 90, 95, 126, 131], .tidy] (w_m_raft_Receive_k5 h)
              · refine drawP [] mixed (clsN _) (seqN ?_)
                exact jumpK [.kill [3, 89, 90, 95, 126, 131], .tidy] (w_m_raft_Receive_k5 h)
            · refine drawP [] mixed (clsN _) (seqN ?_)
              exact jumpK [.kill [3, 89, 90, 95, 126, 131], .tidy] (w_m_raft_Receive_k5 h)
          · refine drawP [] mixed (clsN _) (seqN ?_)
            exact jumpK [.kill [3, 89, 90, 95, 126, 131], .tidy] (w_m_raft_Receive_k5 h)
        · refine condFP (Wp.seq ?_)
          refine regP (seqN ?_)
          replace h := ifS h; rcases h with ⟨g33, h⟩ | ⟨g33, h⟩
          · refine condTP (Wp.reg ?_)
            replace h := bndS h; obtain ⟨r0_10, g34, h⟩ := h
            refine lastF (tab_cons (w_m_raft_member_entries g34) (tab_nil _)) (blockN (seqN ?_))
            exact jumpK [.kill [3, 89, 90, 95, 126, 131, 161], .tidy] (w_m_raft_Receive_k6 h)
          · refine condFP (Wp.seq ?_)
            refine regP (seqN ?_)
            replace h := ifS h; rcases h with ⟨g35, h⟩ | ⟨g35, h⟩
            · refine condTP (Wp.reg ?_)
              replace h := bndS h; obtain ⟨r0_11, g36, h⟩ := h
              refine lastF (tab_cons (w_m_raft_member_told g36) (tab_nil _)) (blockN (seqN ?_))
              exact jumpK [.kill [3, 89, 90, 95, 126, 131, 161, 166], .tidy] (w_m_raft_Receive_k6 h)
            · refine condFP (Wp.seq ?_)
              refine regP (seqN ?_)
              replace h := ifS h; rcases h with ⟨g37, h⟩ | ⟨g37, h⟩
              · refine condTP (Wp.reg ?_)
                replace h := bndS h; obtain ⟨r0_12, g38, h⟩ := h
                refine lastF (tab_cons (w_m_raft_member_snap g38) (tab_nil _)) (blockN (seqN ?_))
                exact jumpK [.kill [3, 89, 90, 95, 126, 131, 161, 166, 171], .tidy] (w_m_raft_Receive_k6 h)
              · refine condFP (Wp.skip (blockN (seqN ?_)))
                exact jumpK [.kill [3, 89, 90, 95, 126, 131, 161, 166, 171], .cell 6 8 .frz, .tidy] (w_m_raft_Receive_k6 h)
theorem w_m_raft_Receive_k2 {x0 : TMsg} {r0_1 : Tmember} {v83 : Bool} {r : (TRaft × (List TMsg))}   (h : m_raft_Receive_k2 x0 r0_1 v83 = some r) : Wp Pg 180 0 (.cond (.t 83) (.reg none i48_R5) .skip) ⟨[(0, .bad), (1, .bad), (2, .bad), (3, .ptr 0 0), (4, .ptr 1 0), (5, .bad), (6, .ptr 2 0), (56, .bad), (83, .bool v83), (89, .bad), (90, .bad), (95, .bad), (123, .bad), (126, .bad), (131, .bad), (158, .bad), (161, .bad), (166, .bad), (171, .bad)], [], (hp100 x0.Kind x0.Group x0.From x0.To x0.Term x0.At x0.AtTerm x0.Commit x0.Ok x0.Entries x0.Data (0 : Int) (0 : Int) (0 : Int) (0 : Int) (0 : Int) (0 : Int) (0 : Int) (0 : Int) (0 : Int) (0 : Int) (0 : Int) r0_1.Raft.Id r0_1.Raft.N r0_1.Raft.Term r0_1.Raft.Vote r0_1.Raft.Role r0_1.Raft.Lead r0_1.Raft.Log.Base r0_1.Raft.Log.BaseTerm r0_1.Raft.Log.Entries r0_1.Raft.Commit r0_1.Raft.Snap r0_1.Raft.Granted r0_1.Raft.Next r0_1.Raft.Match r0_1.Raft.Clock r0_1.Raft.Wait r0_1.f_out), 9⟩ (seqQ Pg 180 0 (.seq (.seq (.reg none i48_R6) (.block 0 (.seq (.reg none i48_R7) (.cond (.t 90) (.reg none i48_R8) (.seq (.reg none i48_R9) (.cond (.t 95) (.seq (.reg (some []) i48_R10) (.cond (.t 123) (.reg none i48_R11) .skip)) (.seq (.reg none i48_R12) (.cond (.t 126) (.reg none i48_R13) (.seq (.reg none i48_R14) (.cond (.t 131) (.seq (.reg (some []) i48_R15) (.cond (.t 158) (.reg none i48_R16) .skip)) (.seq (.reg none i48_R17) (.cond (.t 161) (.reg none i48_R18) (.seq (.reg none i48_R19) (.cond (.t 166) (.reg none i48_R20) (.seq (.reg none i48_R21) (.cond (.t 171) (.reg none i48_R22) .skip)))))))))))))))) (.seq (.reg none i48_R23) .ret)) (qf_48 r)) := by
  unfold m_raft_Receive_k2 at h
  replace h := ifS h; rcases h with ⟨g13, h⟩ | ⟨g13, h⟩
  · refine condTP (Wp.reg ?_)
    replace h := bndS h; obtain ⟨r0_3, g14, h⟩ := h
    refine lastF (tab_cons (w_m_raft_member_follow g14) (tab_nil _)) (seqN ?_)
    exact jumpK [.kill [83], .tidy] (w_m_raft_Receive_k3 h)
  · refine condFP (Wp.skip (seqN ?_))
    exact jumpK [.kill [83]] (w_m_raft_Receive_k3 h)
theorem w_m_raft_Receive_k1 {x0 : TMsg} {r0_1 : Tmember} {v56 : Bool} {r : (TRaft × (List TMsg))}   (h : m_raft_Receive_k1 x0 r0_1 v56 = some r) : Wp Pg 180 0 (.cond (.t 56) (.seq (.reg none i48_R3) .ret) .skip) ⟨[(0, .bad), (1, .bad), (2, .bad), (3, .ptr 0 0), (4, .ptr 1 0), (5, .bad), (6, .ptr 2 0), (56, .bool v56), (83, .bad), (89, .bad), (90, .bad), (95, .bad), (123, .bad), (126, .bad), (131, .bad), (158, .bad), (161, .bad), (166, .bad), (171, .bad)], [], (hp100 x0.Kind x0.Group x0.From x0.To x0.Term x0.At x0.AtTerm x0.Commit x0.Ok x0.Entries x0.Data (0 : Int) (0 : Int) (0 : Int) (0 : Int) (0 : Int) (0 : Int) (0 : Int) (0 : Int) (0 : Int) (0 : Int) (0 : Int) r0_1.Raft.Id r0_1.Raft.N r0_1.Raft.Term r0_1.Raft.Vote r0_1.Raft.Role r0_1.Raft.Lead r0_1.Raft.Log.Base r0_1.Raft.Log.BaseTerm r0_1.Raft.Log.Entries r0_1.Raft.Commit r0_1.Raft.Snap r0_1.Raft.Granted r0_1.Raft.Next r0_1.Raft.Match r0_1.Raft.Clock r0_1.Raft.Wait r0_1.f_out), 9⟩ (seqQ Pg 180 0 (.seq (.seq (.reg (some []) i48_R4) (.cond (.t 83) (.reg none i48_R5) .skip)) (.seq (.seq (.reg none i48_R6) (.block 0 (.seq (.reg none i48_R7) (.cond (.t 90) (.reg none i48_R8) (.seq (.reg none i48_R9) (.cond (.t 95) (.seq (.reg (some []) i48_R10) (.cond (.t 123) (.reg none i48_R11) .skip)) (.seq (.reg none i48_R12) (.cond (.t 126) (.reg none i48_R13) (.seq (.reg none i48_R14) (.cond (.t 131) (.seq (.reg (some []) i48_R15) (.cond (.t 158) (.reg none i48_R16) .skip)) (.seq (.reg none i48_R17) (.cond (.t 161) (.reg none i48_R18) (.seq (.reg none i48_R19) (.cond (.t 166) (.reg none i48_R20) (.seq (.reg none i48_R21) (.cond (.t 171) (.reg none i48_R22) .skip)))))))))))))))) (.seq (.reg none i48_R23) .ret))) (qf_48 r)) := by
  unfold m_raft_Receive_k1 at h
  replace h := ifS h; rcases h with ⟨g8, h⟩ | ⟨g8, h⟩
  · refine condTP (Wp.seq (Wp.reg ?_))
    replace h := bndS h; obtain ⟨r0_2, g9, h⟩ := h
    replace h := retS h; subst h
    refine chunkF 2 (tab_cons (w_m_raft_member_done_v1 g9) (tab_nil _)) ?_
    refine lastT (tab_nil _) (seqN ?_)
    refine weakP [.cell 4 8 .frz, .cell 4 10 .frz, .cell 4 11 .frz, .cell 4 12 .frz, .cell 4 13 .frz, .at 5 .frz] (Wp.ret (seqR ?_))
    exact finP
  · refine condFP (Wp.skip (seqN (Wp.seq (Wp.seq ?_))))
    replace h := ifS h; rcases h with ⟨g10, h⟩ | ⟨g10, h⟩
    · replace h := ifS h; rcases h with ⟨g11, h⟩ | ⟨g11, h⟩
      · replace h := ifS h; rcases h with ⟨g12, h⟩ | ⟨g12, h⟩
        · refine drawP [] mixed (clsN _) (seqN ?_)
          exact jumpK [.kill [56], .tidy] (w_m_raft_Receive_k2 h)
        · refine drawP [] mixed (clsN _) (seqN ?_)
          exact jumpK [.kill [56], .tidy] (w_m_raft_Receive_k2 h)
      · refine drawP [] mixed (clsN _) (seqN ?_)
        exact jumpK [.kill [56], .tidy] (w_m_raft_Receive_k2 h)
    · refine drawP [] mixed (clsN _) (seqN ?_)
      exact jumpK [.kill [56], .tidy] (w_m_raft_Receive_k2 h)
theorem w_m_raft_Receive {r0 : TRaft} {x0 : TMsg} {r : (TRaft × (List TMsg))}   (h : m_raft_Receive r0 x0 = some r) : Spec Pg 48 [.agg [.int .i64 r0.Id, .int .i64 r0.N, .int .i64 r0.Term, .int .i64 r0.Vote, .int .i64 r0.Role, .int .i64 r0.Lead, .int .i64 r0.Log.Base, .int .i64 r0.Log.BaseTerm, sl TEntry.c r0.Log.Entries, .int .i64 r0.Commit, sl (ci .u8) r0.Snap, sl cb r0.Granted, sl (ci .i64) r0.Next, sl (ci .i64) r0.Match, .int .i64 r0.Clock, .int .i64 r0.Wait], .agg [.int .i64 x0.Kind, .int .i64 x0.Group, .int .i64 x0.From, .int .i64 x0.To, .int .i64 x0.Term, .int .i64 x0.At, .int .i64 x0.AtTerm, .int .i64 x0.Commit, .bool x0.Ok, sl TEntry.c x0.Entries, sl (ci .u8) x0.Data]] [] 0 (.tup [.agg [.int .i64 r.1.Id, .int .i64 r.1.N, .int .i64 r.1.Term, .int .i64 r.1.Vote, .int .i64 r.1.Role, .int .i64 r.1.Lead, .int .i64 r.1.Log.Base, .int .i64 r.1.Log.BaseTerm, sl TEntry.c r.1.Log.Entries, .int .i64 r.1.Commit, sl (ci .u8) r.1.Snap, sl cb r.1.Granted, sl (ci .i64) r.1.Next, sl (ci .i64) r.1.Match, .int .i64 r.1.Clock, .int .i64 r.1.Wait], sl TMsg.c r.2]) [] 0 := by
  refine Spec.intro Go.Proofs.Try.func48 i48_ok (le_of_ble rfl) ?_
  show Wp Pg 180 0 i48_B ⟨argEnv _ i48_V, [], _, _⟩ (qf_48 r)
  unfold m_raft_Receive at h
  unfold i48_B
  refine weakP [] ?_
  refine Wp.seq (regP (seqN (Wp.seq (Wp.reg ?_))))
  replace h := bndS h; obtain ⟨r0_1, g1, h⟩ := h
  refine chunkF 2 (tab_cons (w_m_raft_at g1) (tab_nil _)) ?_
  refine lastT (tab_nil _) (seqN (Wp.seq (Wp.seq ?_)))
  replace h := ifS h; rcases h with ⟨g2, h⟩ | ⟨g2, h⟩
  · refine drawP [] mixed (clsN _) (seqN ?_)
    exact jumpK [.kill [0, 1, 2, 5, 83, 89, 90, 95, 123, 126, 131, 158, 161, 166, 171], .tidy] (w_m_raft_Receive_k1 h)
  · replace h := ifS h; rcases h with ⟨g3, h⟩ | ⟨g3, h⟩
    · refine drawP [] mixed (clsN _) (seqN ?_)
      exact jumpK [.kill [0, 1, 2, 5, 83, 89, 90, 95, 123, 126, 131, 158, 161, 166, 171], .tidy] (w_m_raft_Receive_k1 h)
    · replace h := ifS h; rcases h with ⟨g4, h⟩ | ⟨g4, h⟩
      · refine drawP [] mixed (clsN _) (seqN ?_)
        exact jumpK [.kill [0, 1, 2, 5, 83, 89, 90, 95, 123, 126, 131, 158, 161, 166, 171], .tidy] (w_m_raft_Receive_k1 h)
      · replace h := ifS h; rcases h with ⟨g5, h⟩ | ⟨g5, h⟩
        · refine drawP [] mixed (clsN _) (seqN ?_)
          exact jumpK [.kill [0, 1, 2, 5, 83, 89, 90, 95, 123, 126, 131, 158, 161, 166, 171], .tidy] (w_m_raft_Receive_k1 h)
        · replace h := ifS h; rcases h with ⟨g6, h⟩ | ⟨g6, h⟩
          · refine drawP [] mixed (clsN _) (seqN ?_)
            exact jumpK [.kill [0, 1, 2, 5, 83, 89, 90, 95, 123, 126, 131, 158, 161, 166, 171], .tidy] (w_m_raft_Receive_k1 h)
          · replace h := ifS h; rcases h with ⟨g7, h⟩ | ⟨g7, h⟩
            · refine drawP [] mixed (clsN _) (seqN ?_)
              exact jumpK [.kill [0, 1, 2, 5, 83, 89, 90, 95, 123, 126, 131, 158, 161, 166, 171], .tidy] (w_m_raft_Receive_k1 h)
            · refine drawP [] mixed (clsN _) (seqN ?_)
              exact jumpK [.kill [0, 1, 2, 5, 83, 89, 90, 95, 123, 126, 131, 158, 161, 166, 171], .tidy] (w_m_raft_Receive_k1 h)
noncomputable abbrev qf_20 (r : TWorld) : Ex → St → Prop := FinQ 0 [.cell 4 true 2] (.agg [sl TRaft.c r.R, sl TMsg.c r.Net]) [] 0
theorem w_m_law15_Do_k2 {r0_4 : (TWorld × TMsg)} {v87 : Bool} {r : TWorld}   (h : m_law15_Do_k2 r0_4 v87 = some r) : Wp Pg 177 0 (.cond (.t 87) (.seq (.reg none i20_R14) .ret) .skip) ⟨[(0, .bad), (1, .bad), (2, .bad), (3, .bad), (4, .ptr 0 0), (5, .bad), (6, .bad), (7, .bad), (8, .bad), (9, .ptr 1 0), (10, .ptr 2 0), (11, .bad), (12, .bad), (13, .bad), (15, .bad), (16, .bad), (17, .bad), (18, .bad), (19, .bad), (20, .bad), (21, .bad), (34, .bad), (35, .bad), (49, .bad), (56, .bad), (87, .bool v87), (108, .bad), (120, .bad), (127, .bad), (145, .bad), (151, .bad), (170, .bad)], [], (hp6 r0_4.1.R r0_4.1.Net r0_4.2.Kind r0_4.2.Group r0_4.2.From r0_4.2.To r0_4.2.Term r0_4.2.At r0_4.2.AtTerm r0_4.2.Commit r0_4.2.Ok r0_4.2.Entries r0_4.2.Data), 3⟩ (seqQ Pg 177 0 (.seq (.reg (some [(1, 12), (3, 12), (6, 12), (7, 12), (8, 12)]) i20_R15) (.seq (.reg none i20_R16) .ret)) (blockQ 0 (seqQ Pg 177 0 (.seq (.reg none i20_R33) .ret) (qf_20 r)))) := by
  unfold m_law15_Do_k2 at h
  replace h := ifS h; rcases h with ⟨g14, h⟩ | ⟨g14, h⟩
  · replace h := retS h; subst h
    refine condTP (Wp.seq ?_)
    refine regP (seqN (Wp.ret (seqR (blockR (seqR ?_)))))
    exact finP
  · refine condFP (Wp.skip (seqN (Wp.seq ?_)))
    replace h := bndS h; obtain ⟨e_1, g15, h⟩ := h
    replace h := bndS h; obtain ⟨r0_5, g16, h⟩ := h
    refine drawP [] mixed (clsC 8 (tab_cons (w_m_raft_Receive g16) (tab_nil _)) (clsN _)) (seqN (Wp.seq (Wp.reg ?_)))
    replace h := bndS h; obtain ⟨r0_6, g17, h⟩ := h
    replace h := retS h; subst h
    refine chunkT 7 (tab_cons (w_m_law15_set g17) (tab_nil _)) ?_
    refine lastT (tab_nil _) (seqN (Wp.ret (blockR (seqR ?_))))
    exact finP
theorem w_m_law15_Do_k1 {w : TWorld} {o : TOp} {r0 : Int} {e : TRaft} {v49 : Bool} {r : TWorld}   (h : m_law15_Do_k1 w o r0 e v49 = some r) : Wp Pg 177 0 (.cond (.t 49) (.seq (.seq (.reg none i20_R10) (.cond (.t 56) (.seq (.reg none i20_R11) .ret) .skip)) (.seq (.reg (some [(0, 6), (6, 8), (0, 14), (2, 14), (4, 14), (6, 14), (8, 14), (10, 14), (0, 15), (2, 15), (4, 15), (6, 15), (8, 15), (10, 15), (14, 15)]) i20_R12) (.seq (.seq (.reg none i20_R13) (.cond (.t 87) (.seq (.reg none i20_R14) .ret) .skip)) (.seq (.reg (some [(1, 12), (3, 12), (6, 12), (7, 12), (8, 12)]) i20_R15) (.seq (.reg none i20_R16) .ret))))) (.seq (.reg none i20_R17) (.cond (.t 108) (.seq (.reg none i20_R18) (.seq (.seq (.reg none i20_R19) (.cond (.t 120) (.seq (.reg none i20_R20) .ret) .skip)) (.seq (.reg none i20_R21) .ret))) (.seq (.reg none i20_R22) (.cond (.t 127) (.seq (.reg (some [(1, 4)]) i20_R23) (.seq (.reg none i20_R24) (.seq (.seq (.reg none i20_R25) (.cond (.t 145) (.seq (.reg none i20_R26) .ret) .skip)) (.seq (.reg none i20_R27) .ret)))) (.seq (.reg none i20_R28) (.cond (.t 151) (.seq (.reg none i20_R29) (.seq (.seq (.reg none i20_R30) (.cond (.t 170) (.seq (.reg none i20_R31) .ret) .skip)) (.seq (.reg none i20_R32) .ret))) .skip))))))) ⟨[(0, .bad), (1, .bad), (2, .ptr 0 0), (3, .ptr 1 0), (4, .ptr 2 0), (5, .int .i64 r0), (6, .ptr 3 0), (7, .bad), (8, .bad), (9, .bad), (10, .bad), (11, .bad), (12, .bad), (13, .bad), (15, .bad), (16, .bad), (17, .bad), (18, .bad), (19, .bad), (20, .bad), (21, .bad), (34, .int .i64 o.Kind), (35, .bad), (49, .bool v49), (56, .bad), (87, .bad), (108, .bad), (120, .bad), (127, .bad), (145, .bad), (151, .bad), (170, .bad)], [], (hp4 w.R w.Net o.Kind o.Who o.N o.Data e.Id e.N e.Term e.Vote e.Role e.Lead e.Log.Base e.Log.BaseTerm e.Log.Entries e.Commit e.Snap e.Granted e.Next e.Match e.Clock e.Wait), 4⟩ (blockQ 0 (seqQ Pg 177 0 (.seq (.reg none i20_R33) .ret) (qf_20 r))) := by
  unfold m_law15_Do_k1 at h
  replace h := ifS h; rcases h with ⟨g8, h⟩ | ⟨g8, h⟩
  · refine condTP (Wp.seq (Wp.seq ?_))
    refine regP (seqN ?_)
    replace h := ifS h; rcases h with ⟨g9, h⟩ | ⟨g9, h⟩
    · replace h := retS h; subst h
      refine condTP (Wp.seq ?_)
      refine regP (seqN (Wp.ret (seqR (blockR (seqR ?_)))))
      exact finP
    · refine condFP (Wp.skip (seqN (Wp.seq ?_)))
      replace h := bndS h; obtain ⟨r0_3, g10, h⟩ := h
      replace h := bndS h; obtain ⟨r0_4, g11, h⟩ := h
      refine drawP [] mixed (clsC 6 (tab_cons (w_m_law15_pick g10) (tab_nil _)) (clsC 10 (tab_cons (w_m_law15_take g11) (tab_nil _)) (clsN _))) (seqN (Wp.seq (Wp.seq ?_)))
      replace h := ifS h; rcases h with ⟨g12, h⟩ | ⟨g12, h⟩
      · refine regP (seqN ?_)
        exact jumpK [.kill [2, 3, 5, 6, 34, 49, 56], .tidy] (w_m_law15_Do_k2 h)
      · replace h := ifS h; rcases h with ⟨g13, h⟩ | ⟨g13, h⟩
        · refine regP (seqN ?_)
          exact jumpK [.kill [2, 3, 5, 6, 34, 49, 56], .tidy] (w_m_law15_Do_k2 h)
        · refine regP (seqN ?_)
          exact jumpK [.kill [2, 3, 5, 6, 34, 49, 56], .tidy] (w_m_law15_Do_k2 h)
  · refine condFP (Wp.seq ?_)
    refine regP (seqN ?_)
    replace h := ifS h; rcases h with ⟨g18, h⟩ | ⟨g18, h⟩
    · refine condTP (Wp.seq (Wp.reg ?_))
      replace h := bndS h; obtain ⟨r0_7, g19, h⟩ := h
      refine chunkT 4 (tab_cons (w_m_raft_Propose g19) (tab_nil _)) ?_
      refine lastT (tab_nil _) (seqN (Wp.seq (Wp.seq ?_)))
      refine regP (seqN ?_)
      replace h := ifS h; rcases h with ⟨g20, h⟩ | ⟨g20, h⟩
      · replace h := retS h; subst h
        refine condTP (Wp.seq ?_)
        refine regP (seqN (Wp.ret (seqR (blockR (seqR ?_)))))
        exact finP
      · refine condFP (Wp.skip (seqN (Wp.seq (Wp.reg ?_))))
        replace h := bndS h; obtain ⟨r0_8, g21, h⟩ := h
        replace h := retS h; subst h
        refine chunkT 5 (tab_cons (w_m_law15_set g21) (tab_nil _)) ?_
        refine lastT (tab_nil _) (seqN (Wp.ret (blockR (seqR ?_))))
        exact finP
    · refine condFP (Wp.seq ?_)
      refine regP (seqN ?_)
      replace h := ifS h; rcases h with ⟨g22, h⟩ | ⟨g22, h⟩
      · refine condTP (Wp.seq ?_)
        replace h := bndS h; obtain ⟨r0_9, g23, h⟩ := h
        refine drawP [] mixed (clsC 4 (tab_cons (w_m_law15_pick g23) (tab_nil _)) (clsN _)) (seqN (Wp.seq (Wp.reg ?_)))
        replace h := bndS h; obtain ⟨r0_10, g24, h⟩ := h
        refine chunkT 6 (tab_cons (w_m_raft_Compact g24) (tab_nil _)) ?_
        refine lastT (tab_nil _) (seqN (Wp.seq (Wp.seq ?_)))
        refine regP (seqN ?_)
        replace h := ifS h; rcases h with ⟨g25, h⟩ | ⟨g25, h⟩
        · replace h := retS h; subst h
          refine condTP (Wp.seq ?_)
          refine regP (seqN (Wp.ret (seqR (blockR (seqR ?_)))))
          exact finP
        · refine condFP (Wp.skip (seqN (Wp.seq (Wp.reg ?_))))
          replace h := bndS h; obtain ⟨r0_11, g26, h⟩ := h
          replace h := retS h; subst h
          refine chunkT 4 (tab_cons (w_m_law15_set g26) (tab_nil _)) ?_
          refine lastT (tab_nil _) (seqN (Wp.ret (blockR (seqR ?_))))
          exact finP
      · refine condFP (Wp.seq ?_)
        refine regP (seqN ?_)
        replace h := ifS h; rcases h with ⟨g27, h⟩ | ⟨g27, h⟩
        · refine condTP (Wp.seq (Wp.reg ?_))
          replace h := bndS h; obtain ⟨r0_12, g28, h⟩ := h
          refine chunkT 13 (tab_cons (w_m_raft_Restart g28) (tab_nil _)) ?_
          refine lastT (tab_nil _) (seqN (Wp.seq (Wp.seq ?_)))
          refine regP (seqN ?_)
          replace h := ifS h; rcases h with ⟨g29, h⟩ | ⟨g29, h⟩
          · replace h := retS h; subst h
            refine condTP (Wp.seq ?_)
            refine regP (seqN (Wp.ret (seqR (blockR (seqR ?_)))))
            exact finP
          · refine condFP (Wp.skip (seqN (Wp.seq (Wp.reg ?_))))
            replace h := bndS h; obtain ⟨r0_13, g30, h⟩ := h
            replace h := retS h; subst h
            refine chunkT 4 (tab_cons (w_m_law15_set g30) (tab_nil _)) ?_
            refine lastT (tab_nil _) (seqN (Wp.ret (blockR (seqR ?_))))
            exact finP
        · replace h := retS h; subst h
          refine condFP (Wp.skip (blockN (seqN (Wp.seq ?_))))
          refine regP (seqN (Wp.ret ?_))
          exact finP
theorem w_m_law15_Do {w : TWorld} {o : TOp} {r : TWorld}   (h : m_law15_Do w o = some r) : Spec Pg 20 [.agg [sl TRaft.c w.R, sl TMsg.c w.Net], .agg [.int .i64 o.Kind, .int .i64 o.Who, .int .i64 o.N, sl (ci .u8) o.Data]] [] 0 (.agg [sl TRaft.c r.R, sl TMsg.c r.Net]) [] 0 := by
  refine Spec.intro Go.Proofs.Try.func20 i20_ok (le_of_ble rfl) ?_
  show Wp Pg 177 0 i20_B ⟨argEnv _ i20_V, [], _, _⟩ (qf_20 r)
  unfold m_law15_Do at h
  unfold i20_B
  refine weakP [] ?_
  refine Wp.seq (regP (seqN (Wp.seq (Wp.reg ?_))))
  replace h := bndS h; obtain ⟨r0, g1, h⟩ := h
  refine chunkT 6 (tab_cons (w_m_law15_pick g1) (tab_nil _)) ?_
  refine lastT (tab_nil _) (seqN (Wp.seq ?_))
  replace h := bndS h; obtain ⟨e, g2, h⟩ := h
  refine regP (seqN (Wp.seq (Wp.seq ?_)))
  refine regP (seqN (Wp.block (Wp.seq ?_)))
  refine regP (seqN ?_)
  replace h := ifS h; rcases h with ⟨g3, h⟩ | ⟨g3, h⟩
  · refine condTP (Wp.seq (Wp.reg ?_))
    replace h := bndS h; obtain ⟨r0_1, g4, h⟩ := h
    refine chunkT 4 (tab_cons (w_m_raft_Tick g4) (tab_nil _)) ?_
    refine lastT (tab_nil _) (seqN (Wp.seq (Wp.reg ?_)))
    replace h := bndS h; obtain ⟨r0_2, g5, h⟩ := h
    replace h := retS h; subst h
    refine chunkT 5 (tab_cons (w_m_law15_set g5) (tab_nil _)) ?_
    refine lastT (tab_nil _) (seqN (Wp.ret (blockR (seqR ?_))))
    exact finP
  · refine condFP (Wp.seq (Wp.seq ?_))
    refine regP (seqN ?_)
    replace h := ifS h; rcases h with ⟨g6, h⟩ | ⟨g6, h⟩
    · refine condTP (Wp.skip (seqN ?_))
      exact jumpK [.kill [0, 1, 7, 8, 9, 10, 11, 12, 13, 15, 16, 17, 18, 19, 20, 21, 35, 56, 87, 108, 120, 127, 145, 151, 170], .tidy] (w_m_law15_Do_k1 h)
    · refine condFP (Wp.seq ?_)
      refine regP (seqN ?_)
      replace h := ifS h; rcases h with ⟨g7, h⟩ | ⟨g7, h⟩
      · refine condTP (Wp.skip (seqN ?_))
        exact jumpK [.kill [0, 1, 7, 8, 9, 10, 11, 12, 13, 15, 16, 17, 18, 19, 20, 21, 35, 56, 87, 108, 120, 127, 145, 151, 170], .tidy] (w_m_law15_Do_k1 h)
      · refine condFP ?_
        refine regP (seqN ?_)
        exact jumpK [.kill [0, 1, 7, 8, 9, 10, 11, 12, 13, 15, 16, 17, 18, 19, 20, 21, 35, 56, 87, 108, 120, 127, 145, 151, 170], .tidy] (w_m_law15_Do_k1 h)
noncomputable abbrev qf_4 (r : Bool) : Ex → St → Prop := FinQ 0 [.tmp 4] (.bool r) [] 0
noncomputable abbrev H_m_law15_RaftOne_l1 (l : (List TOp)) (rec0 : Int → (List TRaft) → (List TMsg) → (List Int) → (List Int) → Option Bool) (r : Bool) : Prop := ∀ {i : Int} {w_00 : (List TRaft)} {w_10 : (List TMsg)} {terms who : (List Int)}, rec0 i w_00 w_10 terms who = some r → LWp Pg 94 0 i4_L2 ⟨[(0, .bad), (1, sl TOp.c l), (4, .bad), (5, .ptr 0 0), (6, .own 1 1 0 terms.length false), (7, .own 1 2 0 who.length false), (8, .int .i64 i), (9, .bad), (10, .bad), (11, .bad), (14, .bad), (22, .bad), (35, .bad), (44, .bad), (48, .bad), (61, .bad), (72, .bad), (74, .bad)], [], [(0, .box [sl TRaft.c w_00, sl TMsg.c w_10]), (1, .arr 1 (List.map (ci .i64) terms) 0), (2, .arr 1 (List.map (ci .i64) who) 0)], 3⟩ (blockQ 0 (seqQ Pg 94 0 (.seq (.reg none i4_R24) .ret) (qf_4 r)))
noncomputable abbrev H_m_law15_RaftOne_l2 (l : (List TOp)) (i : Int) (r0_4 : TWorld) (rec0 : Int → (List Int) → (List Int) → Option Bool) (r : Bool) : Prop := ∀ {k : Int} {terms_1 who_1 : (List Int)}, rec0 k terms_1 who_1 = some r → LWp Pg 94 0 i4_L1 ⟨[(0, .bad), (1, sl TOp.c l), (4, .bad), (5, .ptr 0 0), (6, .own 1 1 0 terms_1.length false), (7, .own 1 2 0 who_1.length false), (8, .int .i64 i), (9, .int .i64 k), (10, .bad), (11, .bad), (14, .bad), (22, .bad), (35, .bad), (44, .bad), (48, .bad), (61, .bad), (72, .bad), (74, .bad)], [], [(0, .box [sl TRaft.c r0_4.R, sl TMsg.c r0_4.Net]), (1, .arr 1 (List.map (ci .i64) terms_1) 0), (2, .arr 1 (List.map (ci .i64) who_1) 0)], 3⟩ (blockQ 2 (blockQ 1 (seqQ Pg 94 0 (.reg none i4_R23) (loopQ Pg 94 0 i4_L2 (blockQ 0 (seqQ Pg 94 0 (.seq (.reg none i4_R24) .ret) (qf_4 r)))))))
noncomputable abbrev H_m_law15_RaftOne_l3 (l : (List TOp)) (i : Int) (r0_4 : TWorld) (k : Int) (terms_1 who_1 : (List Int)) (rec0 : Bool → Int → Option Bool) (r : Bool) : Prop := ∀ {met : Bool} {j : Int}, rec0 met j = some r → LWp Pg 94 0 i4_L0 ⟨[(0, .bad), (1, sl TOp.c l), (4, .bad), (5, .ptr 0 0), (6, .own 1 1 0 terms_1.length false), (7, .own 1 2 0 who_1.length false), (8, .int .i64 i), (9, .int .i64 k), (10, .bool met), (11, .int .i64 j), (14, .bad), (22, .bad), (35, .bad), (44, .bad), (48, .bad), (61, .bad), (72, .bad), (74, .bad)], [], [(0, .box [sl TRaft.c r0_4.R, sl TMsg.c r0_4.Net]), (1, .arr 1 (List.map (ci .i64) terms_1) 0), (2, .arr 1 (List.map (ci .i64) who_1) 0)], 3⟩ (blockQ 4 (seqQ Pg 94 0 (.seq (.reg none i4_R19) (.cond (.t 74) (.seq (.reg none i4_R20) (.reg none i4_R21)) .skip)) (blockQ 3 (seqQ Pg 94 0 (.reg none i4_R22) (loopQ Pg 94 0 i4_L1 (blockQ 2 (blockQ 1 (seqQ Pg 94 0 (.reg none i4_R23) (loopQ Pg 94 0 i4_L2 (blockQ 0 (seqQ Pg 94 0 (.seq (.reg none i4_R24) .ret) (qf_4 r))))))))))))
theorem w_m_law15_RaftOne_k5  {r : Bool}   (h : m_law15_RaftOne_k5 = some r) : Wp Pg 94 0 (.seq (.reg none i4_R24) .ret) ⟨[(0, .bad), (1, .bad), (4, .bad), (5, .bad), (6, .bad), (7, .bad), (8, .bad), (9, .bad), (10, .bad), (11, .bad), (14, .bad), (22, .bad), (35, .bad), (44, .bad), (48, .bad), (61, .bad), (72, .bad), (74, .bad)], [], [], 0⟩ (qf_4 r) := by
  unfold m_law15_RaftOne_k5 at h
  refine Wp.seq (Wp.reg ?_)
  replace h := bndS h; obtain ⟨r0_5, g22, h⟩ := h
  replace h := retS h; subst h
  refine chunkT 1 (tab_cons (w_m_law15_works g22) (tab_nil _)) ?_
  refine lastT (tab_nil _) (seqN (Wp.ret ?_))
  exact finP
theorem w_m_law15_RaftOne_k4 {l : (List TOp)} {i : Int} {r0_4 : TWorld} {terms_3 who_3 : (List Int)} {r : Bool} {rec_m_law15_RaftOne_l1 : Int → (List TRaft) → (List TMsg) → (List Int) → (List Int) → Option Bool} (hrec_m_law15_RaftOne_l1 : H_m_law15_RaftOne_l1 l rec_m_law15_RaftOne_l1 r) (h : m_law15_RaftOne_k4 rec_m_law15_RaftOne_l1 i r0_4 terms_3 who_3 = some r) : Wp Pg 94 0 (.reg none i4_R23) ⟨[(0, .bad), (1, sl TOp.c l), (4, .bad), (5, .ptr 0 0), (6, .own 1 1 0 terms_3.length false), (7, .own 1 2 0 who_3.length false), (8, .int .i64 i), (9, .bad), (10, .bad), (11, .bad), (14, .bad), (22, .bad), (35, .bad), (44, .bad), (48, .bad), (61, .bad), (72, .bad), (74, .bad)], [], [(0, .box [sl TRaft.c r0_4.R, sl TMsg.c r0_4.Net]), (1, .arr 1 (List.map (ci .i64) terms_3) 0), (2, .arr 1 (List.map (ci .i64) who_3) 0)], 3⟩ (loopQ Pg 94 0 i4_L2 (blockQ 0 (seqQ Pg 94 0 (.seq (.reg none i4_R24) .ret) (qf_4 r)))) := by
  unfold m_law15_RaftOne_k4 at h
  refine regP (loopN ?_)
  exact jumpL [] (hrec_m_law15_RaftOne_l1 h)
theorem w_m_law15_RaftOne_k3 {l : (List TOp)} {i : Int} {r0_4 : TWorld} {k : Int} {terms_2 who_2 : (List Int)} {r : Bool} {rec_m_law15_RaftOne_l2 : Int → (List Int) → (List Int) → Option Bool} (hrec_m_law15_RaftOne_l2 : H_m_law15_RaftOne_l2 l i r0_4 rec_m_law15_RaftOne_l2 r) (h : m_law15_RaftOne_k3 rec_m_law15_RaftOne_l2 k terms_2 who_2 = some r) : Wp Pg 94 0 (.reg none i4_R22) ⟨[(0, .bad), (1, sl TOp.c l), (4, .bad), (5, .ptr 0 0), (6, .own 1 1 0 terms_2.length false), (7, .own 1 2 0 who_2.length false), (8, .int .i64 i), (9, .int .i64 k), (10, .bad), (11, .bad), (14, .bad), (22, .bad), (35, .bad), (44, .bad), (48, .bad), (61, .bad), (72, .bad), (74, .bad)], [], [(0, .box [sl TRaft.c r0_4.R, sl TMsg.c r0_4.Net]), (1, .arr 1 (List.map (ci .i64) terms_2) 0), (2, .arr 1 (List.map (ci .i64) who_2) 0)], 3⟩ (loopQ Pg 94 0 i4_L1 (blockQ 2 (blockQ 1 (seqQ Pg 94 0 (.reg none i4_R23) (loopQ Pg 94 0 i4_L2 (blockQ 0 (seqQ Pg 94 0 (.seq (.reg none i4_R24) .ret) (qf_4 r)))))))) := by
  unfold m_law15_RaftOne_k3 at h
  refine regP (loopN ?_)
  exact jumpL [] (hrec_m_law15_RaftOne_l2 h)
theorem w_m_law15_RaftOne_k2 {l : (List TOp)} {i : Int} {r0_4 : TWorld} {k : Int} {terms_1 who_1 : (List Int)} {met_2 : Bool} {r : Bool} {rec_m_law15_RaftOne_l2 : Int → (List Int) → (List Int) → Option Bool} (hrec_m_law15_RaftOne_l2 : H_m_law15_RaftOne_l2 l i r0_4 rec_m_law15_RaftOne_l2 r) (h : m_law15_RaftOne_k2 rec_m_law15_RaftOne_l2 r0_4 k terms_1 who_1 met_2 = some r) : Wp Pg 94 0 (.seq (.reg none i4_R19) (.cond (.t 74) (.seq (.reg none i4_R20) (.reg none i4_R21)) .skip)) ⟨[(0, .bad), (1, sl TOp.c l), (4, .bad), (5, .ptr 0 0), (6, .own 1 1 0 terms_1.length false), (7, .own 1 2 0 who_1.length false), (8, .int .i64 i), (9, .int .i64 k), (10, .bool met_2), (11, .bad), (14, .bad), (22, .bad), (35, .bad), (44, .bad), (48, .bad), (61, .bad), (72, .bad), (74, .bad)], [], [(0, .box [sl TRaft.c r0_4.R, sl TMsg.c r0_4.Net]), (1, .arr 1 (List.map (ci .i64) terms_1) 0), (2, .arr 1 (List.map (ci .i64) who_1) 0)], 3⟩ (blockQ 3 (seqQ Pg 94 0 (.reg none i4_R22) (loopQ Pg 94 0 i4_L1 (blockQ 2 (blockQ 1 (seqQ Pg 94 0 (.reg none i4_R23) (loopQ Pg 94 0 i4_L2 (blockQ 0 (seqQ Pg 94 0 (.seq (.reg none i4_R24) .ret) (qf_4 r)))))))))) := by
  unfold m_law15_RaftOne_k2 at h
  refine Wp.seq (regP (seqN ?_))
  replace h := ifS h; rcases h with ⟨g18, h⟩ | ⟨g18, h⟩
  · refine condFP (Wp.skip (blockN (seqN ?_)))
    exact jumpK [.kill [10, 74]] (w_m_law15_RaftOne_k3 (l := l) (i := i) (r0_4 := r0_4) hrec_m_law15_RaftOne_l2 h)
  · refine condTP (Wp.seq ?_)
    replace h := bndS h; obtain ⟨e_5, g19, h⟩ := h
    replace h := reqS h; obtain ⟨g20, h⟩ := h
    refine regP (seqN ?_)
    replace h := reqS h; obtain ⟨g21, h⟩ := h
    refine regP (blockN (seqN ?_))
    exact jumpK [.kill [10, 74], .tidy] (w_m_law15_RaftOne_k3 (l := l) (i := i) (r0_4 := r0_4) hrec_m_law15_RaftOne_l2 h)
theorem w_m_law15_RaftOne_k1 {l : (List TOp)} {i : Int} {r0_4 : TWorld} {k : Int} {terms_1 who_1 : (List Int)} {j : Int} {met_1 : Bool} {r : Bool} {rec_m_law15_RaftOne_l3 : Bool → Int → Option Bool} (hrec_m_law15_RaftOne_l3 : H_m_law15_RaftOne_l3 l i r0_4 k terms_1 who_1 rec_m_law15_RaftOne_l3 r) (h : m_law15_RaftOne_k1 rec_m_law15_RaftOne_l3 j met_1 = some r) : Wp Pg 94 0 (.reg none i4_R18) ⟨[(0, .bad), (1, sl TOp.c l), (4, .bad), (5, .ptr 0 0), (6, .own 1 1 0 terms_1.length false), (7, .own 1 2 0 who_1.length false), (8, .int .i64 i), (9, .int .i64 k), (10, .bool met_1), (11, .int .i64 j), (14, .bad), (22, .bad), (35, .bad), (44, .bad), (48, .bad), (61, .bad), (72, .bad), (74, .bad)], [], [(0, .box [sl TRaft.c r0_4.R, sl TMsg.c r0_4.Net]), (1, .arr 1 (List.map (ci .i64) terms_1) 0), (2, .arr 1 (List.map (ci .i64) who_1) 0)], 3⟩ (loopQ Pg 94 0 i4_L0 (blockQ 4 (seqQ Pg 94 0 (.seq (.reg none i4_R19) (.cond (.t 74) (.seq (.reg none i4_R20) (.reg none i4_R21)) .skip)) (blockQ 3 (seqQ Pg 94 0 (.reg none i4_R22) (loopQ Pg 94 0 i4_L1 (blockQ 2 (blockQ 1 (seqQ Pg 94 0 (.reg none i4_R23) (loopQ Pg 94 0 i4_L2 (blockQ 0 (seqQ Pg 94 0 (.seq (.reg none i4_R24) .ret) (qf_4 r))))))))))))) := by
  unfold m_law15_RaftOne_k1 at h
  refine regP (loopN ?_)
  exact jumpL [] (hrec_m_law15_RaftOne_l3 h)
theorem w_m_law15_RaftOne_l3_B {l : (List TOp)} {i : Int} {r0_4 : TWorld} {k : Int} {terms_1 who_1 : (List Int)} {r : Bool} {rec_m_law15_RaftOne_l2 : Int → (List Int) → (List Int) → Option Bool} (hrec_m_law15_RaftOne_l2 : H_m_law15_RaftOne_l2 l i r0_4 rec_m_law15_RaftOne_l2 r) {rec_m_law15_RaftOne_l3 : Bool → Int → Option Bool} (hrec_m_law15_RaftOne_l3 : H_m_law15_RaftOne_l3 l i r0_4 k terms_1 who_1 rec_m_law15_RaftOne_l3 r) {met : Bool} {j : Int} (h : m_law15_RaftOne_l3_B rec_m_law15_RaftOne_l2 r0_4 k terms_1 who_1 rec_m_law15_RaftOne_l3 met j = some r) : LWp Pg 94 0 i4_L0 ⟨[(0, .bad), (1, sl TOp.c l), (4, .bad), (5, .ptr 0 0), (6, .own 1 1 0 terms_1.length false), (7, .own 1 2 0 who_1.length false), (8, .int .i64 i), (9, .int .i64 k), (10, .bool met), (11, .int .i64 j), (14, .bad), (22, .bad), (35, .bad), (44, .bad), (48, .bad), (61, .bad), (72, .bad), (74, .bad)], [], [(0, .box [sl TRaft.c r0_4.R, sl TMsg.c r0_4.Net]), (1, .arr 1 (List.map (ci .i64) terms_1) 0), (2, .arr 1 (List.map (ci .i64) who_1) 0)], 3⟩ (blockQ 4 (seqQ Pg 94 0 (.seq (.reg none i4_R19) (.cond (.t 74) (.seq (.reg none i4_R20) (.reg none i4_R21)) .skip)) (blockQ 3 (seqQ Pg 94 0 (.reg none i4_R22) (loopQ Pg 94 0 i4_L1 (blockQ 2 (blockQ 1 (seqQ Pg 94 0 (.reg none i4_R23) (loopQ Pg 94 0 i4_L2 (blockQ 0 (seqQ Pg 94 0 (.seq (.reg none i4_R24) .ret) (qf_4 r)))))))))))) := by
  unfold m_law15_RaftOne_l3_B at h
  refine LWp.stepC i4_L0.eq_1 ?_
  refine Wp.seq (Wp.seq (regP (seqN ?_)))
  replace h := ifS h; rcases h with ⟨g12, h⟩ | ⟨g12, h⟩
  · refine condTP (Wp.skip (seqN (Wp.seq (Wp.block (Wp.seq ?_)))))
    replace h := bndS h; obtain ⟨e_2, g13, h⟩ := h
    replace h := bndS h; obtain ⟨e_3, g14, h⟩ := h
    have := ias_ownL (n := 1) (id := 1) (ex := false) (k := .i64) g13 rfl
    have := ld_get (c := (ci .i64)) g13
    refine drawP [] mixed (clsN _) (seqN ?_)
    replace h := ifS h; rcases h with ⟨g15, h⟩ | ⟨g15, h⟩
    · refine condTP (Wp.seq ?_)
      refine regP (seqN (Wp.seq ?_))
      replace h := bndS h; obtain ⟨e_4, g16, h⟩ := h
      have := ias_ownL (n := 1) (id := 2) (ex := false) (k := .i64) g16 rfl
      have := ld_get (c := (ci .i64)) g16
      refine drawP [] mixed (clsN _) (seqN ?_)
      replace h := ifS h; rcases h with ⟨g17, h⟩ | ⟨g17, h⟩
      · replace h := retS h; subst h
        refine condTP (Wp.seq ?_)
        refine regP (seqN (Wp.ret (blockR (seqR (loopR (blockR (seqR (blockR (seqR (loopR (blockR (blockR (seqR (loopR (blockR (seqR ?_))))))))))))))))
        exact finP
      · refine condFP (Wp.skip (blockN (seqN ?_)))
        exact jumpK [.kill [48, 61, 72], .tidy] (w_m_law15_RaftOne_k1 (l := l) (i := i) (r0_4 := r0_4) (k := k) (terms_1 := terms_1) (who_1 := who_1) hrec_m_law15_RaftOne_l3 h)
    · refine condFP (Wp.skip (blockN (seqN ?_)))
      exact jumpK [.kill [48, 61], .tidy] (w_m_law15_RaftOne_k1 (l := l) (i := i) (r0_4 := r0_4) (k := k) (terms_1 := terms_1) (who_1 := who_1) hrec_m_law15_RaftOne_l3 h)
  · refine condFP (Wp.out (seqO (loopO (blockO (seqN ?_)))))
    exact jumpK [.kill [11, 48]] (w_m_law15_RaftOne_k2 (l := l) (i := i) hrec_m_law15_RaftOne_l2 h)
theorem w_m_law15_RaftOne_l3 {l : (List TOp)} {i : Int} {r0_4 : TWorld} {k : Int} {terms_1 who_1 : (List Int)} {r : Bool} {rec_m_law15_RaftOne_l2 : Int → (List Int) → (List Int) → Option Bool} (hrec_m_law15_RaftOne_l2 : H_m_law15_RaftOne_l2 l i r0_4 rec_m_law15_RaftOne_l2 r) : ∀ (n : Nat), H_m_law15_RaftOne_l3 l i r0_4 k terms_1 who_1 (m_law15_RaftOne_l3 rec_m_law15_RaftOne_l2 r0_4 k terms_1 who_1 n) r := by
  intro n
  induction n with
  | zero => intro met j h; unfold m_law15_RaftOne_l3 at h; cases h
  | succ n ih => intro met j h; unfold m_law15_RaftOne_l3 at h; exact w_m_law15_RaftOne_l3_B (l := l) (i := i) hrec_m_law15_RaftOne_l2 ih h
theorem w_m_law15_RaftOne_l2_B {l : (List TOp)} {i : Int} {r0_4 : TWorld} {r : Bool} {rec_m_law15_RaftOne_l1 : Int → (List TRaft) → (List TMsg) → (List Int) → (List Int) → Option Bool} (hrec_m_law15_RaftOne_l1 : H_m_law15_RaftOne_l1 l rec_m_law15_RaftOne_l1 r) {rec_m_law15_RaftOne_l2 : Int → (List Int) → (List Int) → Option Bool} (hrec_m_law15_RaftOne_l2 : H_m_law15_RaftOne_l2 l i r0_4 rec_m_law15_RaftOne_l2 r) {k : Int} {terms_1 who_1 : (List Int)} (h : m_law15_RaftOne_l2_B rec_m_law15_RaftOne_l1 i r0_4 rec_m_law15_RaftOne_l2 k terms_1 who_1 = some r) : LWp Pg 94 0 i4_L1 ⟨[(0, .bad), (1, sl TOp.c l), (4, .bad), (5, .ptr 0 0), (6, .own 1 1 0 terms_1.length false), (7, .own 1 2 0 who_1.length false), (8, .int .i64 i), (9, .int .i64 k), (10, .bad), (11, .bad), (14, .bad), (22, .bad), (35, .bad), (44, .bad), (48, .bad), (61, .bad), (72, .bad), (74, .bad)], [], [(0, .box [sl TRaft.c r0_4.R, sl TMsg.c r0_4.Net]), (1, .arr 1 (List.map (ci .i64) terms_1) 0), (2, .arr 1 (List.map (ci .i64) who_1) 0)], 3⟩ (blockQ 2 (blockQ 1 (seqQ Pg 94 0 (.reg none i4_R23) (loopQ Pg 94 0 i4_L2 (blockQ 0 (seqQ Pg 94 0 (.seq (.reg none i4_R24) .ret) (qf_4 r))))))) := by
  unfold m_law15_RaftOne_l2_B at h
  refine LWp.stepC i4_L1.eq_1 ?_
  refine Wp.seq (Wp.seq (regP (seqN ?_)))
  replace h := ifS h; rcases h with ⟨g9, h⟩ | ⟨g9, h⟩
  · refine condTP (Wp.skip (seqN (Wp.seq (Wp.block (Wp.seq (Wp.seq ?_))))))
    replace h := bndS h; obtain ⟨e_1, g10, h⟩ := h
    refine regP (seqN ?_)
    replace h := ifS h; rcases h with ⟨g11, h⟩ | ⟨g11, h⟩
    · refine condTP (Wp.out (seqO (blockO (seqN ?_))))
      exact jumpK [.kill [35, 44]] (w_m_law15_RaftOne_k3 (l := l) (i := i) (r0_4 := r0_4) hrec_m_law15_RaftOne_l2 h)
    · refine condFP (Wp.skip (seqN (Wp.seq ?_)))
      refine regP (seqN (Wp.seq (Wp.seq ?_)))
      refine regP (seqN (Wp.block (Wp.loop ?_)))
      exact jumpL [.kill [35, 44]] (w_m_law15_RaftOne_l3 (l := l) (i := i) hrec_m_law15_RaftOne_l2 _ h)
  · refine condFP (Wp.out (seqO (loopO (blockO (blockN (seqN ?_))))))
    exact jumpK [.kill [9, 35]] (w_m_law15_RaftOne_k4 (l := l) hrec_m_law15_RaftOne_l1 h)
theorem w_m_law15_RaftOne_l2 {l : (List TOp)} {i : Int} {r0_4 : TWorld} {r : Bool} {rec_m_law15_RaftOne_l1 : Int → (List TRaft) → (List TMsg) → (List Int) → (List Int) → Option Bool} (hrec_m_law15_RaftOne_l1 : H_m_law15_RaftOne_l1 l rec_m_law15_RaftOne_l1 r) : ∀ (n : Nat), H_m_law15_RaftOne_l2 l i r0_4 (m_law15_RaftOne_l2 rec_m_law15_RaftOne_l1 i r0_4 n) r := by
  intro n
  induction n with
  | zero => intro k terms_1 who_1 h; unfold m_law15_RaftOne_l2 at h; cases h
  | succ n ih => intro k terms_1 who_1 h; unfold m_law15_RaftOne_l2 at h; exact w_m_law15_RaftOne_l2_B (l := l) hrec_m_law15_RaftOne_l1 ih h
theorem w_m_law15_RaftOne_l1_B {l : (List TOp)} {r : Bool}   {rec_m_law15_RaftOne_l1 : Int → (List TRaft) → (List TMsg) → (List Int) → (List Int) → Option Bool} (hrec_m_law15_RaftOne_l1 : H_m_law15_RaftOne_l1 l rec_m_law15_RaftOne_l1 r) {i : Int} {w_00 : (List TRaft)} {w_10 : (List TMsg)} {terms who : (List Int)} (h : m_law15_RaftOne_l1_B  l rec_m_law15_RaftOne_l1 i w_00 w_10 terms who = some r) : LWp Pg 94 0 i4_L2 ⟨[(0, .bad), (1, sl TOp.c l), (4, .bad), (5, .ptr 0 0), (6, .own 1 1 0 terms.length false), (7, .own 1 2 0 who.length false), (8, .int .i64 i), (9, .bad), (10, .bad), (11, .bad), (14, .bad), (22, .bad), (35, .bad), (44, .bad), (48, .bad), (61, .bad), (72, .bad), (74, .bad)], [], [(0, .box [sl TRaft.c w_00, sl TMsg.c w_10]), (1, .arr 1 (List.map (ci .i64) terms) 0), (2, .arr 1 (List.map (ci .i64) who) 0)], 3⟩ (blockQ 0 (seqQ Pg 94 0 (.seq (.reg none i4_R24) .ret) (qf_4 r))) := by
  unfold m_law15_RaftOne_l1_B at h
  refine LWp.stepC i4_L2.eq_1 ?_
  refine Wp.seq (Wp.seq (regP (seqN ?_)))
  replace h := ifS h; rcases h with ⟨g6, h⟩ | ⟨g6, h⟩
  · refine condTP (Wp.skip (seqN (Wp.seq (Wp.block (Wp.seq ?_)))))
    replace h := bndS h; obtain ⟨e, g7, h⟩ := h
    replace h := bndS h; obtain ⟨r0_4, g8, h⟩ := h
    refine drawP [] mixed (clsC 5 (tab_cons (w_m_law15_Do g8) (tab_nil _)) (clsN _)) (seqN (Wp.seq ?_))
    refine regP (seqN (Wp.block (Wp.loop ?_)))
    exact jumpL [.kill [22], .tidy] (w_m_law15_RaftOne_l2 (l := l) hrec_m_law15_RaftOne_l1 _ h)
  · refine condFP (Wp.out (seqO (loopO (blockO (seqN ?_)))))
    exact jumpK [.kill [1, 5, 6, 7, 8, 22], .tidy] (w_m_law15_RaftOne_k5 h)
theorem w_m_law15_RaftOne_l1 {l : (List TOp)} {r : Bool}   : ∀ (n : Nat), H_m_law15_RaftOne_l1 l (m_law15_RaftOne_l1  l n) r := by
  intro n
  induction n with
  | zero => intro i w_00 w_10 terms who h; unfold m_law15_RaftOne_l1 at h; cases h
  | succ n ih => intro i w_00 w_10 terms who h; unfold m_law15_RaftOne_l1 at h; exact w_m_law15_RaftOne_l1_B  ih h
theorem w_m_law15_RaftOne {n0 : Int} {l : (List TOp)} {r : Bool}   (h : m_law15_RaftOne n0 l = some r) : Spec Pg 4 [.int .u8 n0, sl TOp.c l] [] 0 (.bool r) [] 0 := by
  refine Spec.intro Go.Proofs.Try.func4 i4_ok (le_of_ble rfl) ?_
  show Wp Pg 94 0 i4_B ⟨argEnv _ i4_V, [], _, _⟩ (qf_4 r)
  unfold m_law15_RaftOne at h
  unfold i4_B
  refine weakP [] ?_
  refine Wp.seq (regP (seqN (Wp.seq (Wp.seq (Wp.reg ?_)))))
  replace h := bndS h; obtain ⟨r0, g1, h⟩ := h
  refine chunkT 2 (tab_cons (w_m_law15_light g1) (tab_nil _)) ?_
  refine lastT (tab_nil _) (seqN ?_)
  replace h := ifS h; rcases h with ⟨g2, h⟩ | ⟨g2, h⟩
  · refine condFP (Wp.skip (seqN (Wp.seq (Wp.reg ?_))))
    replace h := bndS h; obtain ⟨r0_2, g4, h⟩ := h
    refine chunkT 2 (tab_cons (w_m_law15_size g4) (tab_nil _)) ?_
    replace h := bndS h; obtain ⟨r0_3, g5, h⟩ := h
    refine chunkT 1 (tab_cons (w_m_law15_Begin g5) (tab_nil _)) ?_
    refine lastT (tab_nil _) (seqN (Wp.seq ?_))
    refine regP (seqN (Wp.seq (Wp.seq ?_)))
    refine regP (seqN (Wp.block (Wp.loop ?_)))
    exact jumpL [.kill [0, 4, 9, 10, 11, 14, 22, 35, 44, 48, 61, 72, 74], .at 6 (.virt 1), .at 7 (.virt 1), .tidy] (w_m_law15_RaftOne_l1 _ h)
  · refine condTP (Wp.seq (Wp.reg ?_))
    replace h := bndS h; obtain ⟨r0_1, g3, h⟩ := h
    replace h := retS h; subst h
    refine chunkT 1 (tab_cons (w_m_law15_works g3) (tab_nil _)) ?_
    refine lastT (tab_nil _) (seqN (Wp.ret (seqR ?_)))
    exact finP
end Go.Proofs.Ytgoachcogmlhcaa.R
