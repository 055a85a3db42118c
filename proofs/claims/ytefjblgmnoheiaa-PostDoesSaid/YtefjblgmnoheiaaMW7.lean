/- The program's functions answer what the models answer: 6. -/
import Derived.Test.YtefjblgmnoheiaaMW0
import Derived.Test.YtefjblgmnoheiaaMW1
import Derived.Test.YtefjblgmnoheiaaMW2
import Derived.Test.YtefjblgmnoheiaaMW4
import Derived.Test.YtefjblgmnoheiaaMW5
import Derived.Test.YtefjblgmnoheiaaMO
import Derived.Test.YtefjblgmnoheiaaMW3
set_option maxRecDepth 100000
set_option maxHeartbeats 1600000
set_option linter.unusedVariables false
set_option linter.unusedSimpArgs false
set_option linter.defProp false
noncomputable section
namespace Go.Proofs.Ytefjblgmnoheiaa.R
open Go Nat
/-! funicular/funicularref22.Open -/
noncomputable abbrev qf_21 (r : (TPost × (List THit) × Int)) : Ex → St → Prop := FinQ 0 [.cell 4 true 3, .tmp 5, .tmp 6] (.tup [.agg [.int .i64 r.1.Next, sl TMail.c r.1.Mails, sl TSub.c r.1.Subs], sl THit.c r.2.1, .int .i64 r.2.2]) [] 0
noncomputable abbrev H_m_ref22_Open_l1 (p : TPost) (s : TSub) (rec0 : Int → (List TMail) → (List THit) → Int → Option (TPost × (List THit) × Int)) (r : (TPost × (List THit) × Int)) : Prop := ∀ {i : Int} {out_1 : (List TMail)} {hits : (List THit)} {mine_5 : Int}, rec0 i out_1 hits mine_5 = some r → LWp Pg 117 0 i21_L0 ⟨[(0, .bad), (1, .bad), (2, .ptr 0 0), (3, .bad), (4, .ptr 1 0), (5, .bad), (6, .bad), (7, .ptr 2 0), (8, .own 5 4 0 hits.length false), (9, .ptr 5 0), (10, .int .i64 i), (11, .bad), (12, .bad), (13, .bad), (21, .bad), (29, .bad), (34, .bad), (44, .bad), (54, .bad), (77, .bad), (90, .bad), (108, .bad)], [], (hs39 s p.Next p.Mails p.Subs (0 : Int) p.Next out_1 mine_5 hits), 6⟩ (blockQ 0 (seqQ Pg 117 0 (.seq (.reg none i21_R19) (.seq (.seq (.reg none i21_R20) (.block 2 (.loop i21_L1))) (.seq (.seq (.reg none i21_R27) (.cond (.t 108) (.reg none i21_R28) .skip)) (.seq (.reg none i21_R29) .ret)))) (qf_21 r)))
noncomputable abbrev H_m_ref22_Open_l2 (p : TPost) (s : TSub) (out_1_1 : (List TMail)) (hits_2 : (List THit)) (mine_5_2 : Int) (rec0 : Bool → Int → (List TSub) → Option (TPost × (List THit) × Int)) (r : (TPost × (List THit) × Int)) : Prop := ∀ {done : Bool} {i_1 : Int} {out_2 : (List TSub)}, rec0 done i_1 out_2 = some r → LWp Pg 117 0 i21_L1 ⟨[(0, .bad), (1, .bad), (2, .ptr 0 0), (3, .bad), (4, .ptr 1 0), (5, .bad), (6, .bad), (7, .ptr 2 0), (8, .own 5 5 0 hits_2.length false), (9, .ptr 6 0), (10, .bad), (11, .bad), (12, .bool done), (13, .int .i64 i_1), (21, .bad), (29, .bad), (34, .bad), (44, .bad), (54, .bad), (77, .bad), (90, .bad), (108, .bad)], [], (hs51 s p.Next p.Mails p.Subs (0 : Int) p.Next out_1_1 out_2 mine_5_2 hits_2), 7⟩ (blockQ 2 (seqQ Pg 117 0 (.seq (.seq (.reg none i21_R27) (.cond (.t 108) (.reg none i21_R28) .skip)) (.seq (.reg none i21_R29) .ret)) (qf_21 r)))
theorem w_m_ref22_Open_k7 {p : TPost} {out_1_1 : (List TMail)} {hits_2 : (List THit)} {out_2_3 : (List TSub)} {r : (TPost × (List THit) × Int)}   (h : m_ref22_Open_k7 p out_1_1 hits_2 out_2_3 = some r) : Wp Pg 117 0 (.seq (.reg none i21_R29) .ret) ⟨[(0, .bad), (1, .bad), (2, .bad), (3, .bad), (4, .ptr 0 0), (5, .bad), (6, .bad), (7, .ptr 1 0), (8, .own 5 4 0 hits_2.length false), (9, .bad), (10, .bad), (11, .bad), (12, .bad), (13, .bad), (21, .bad), (29, .bad), (34, .bad), (44, .bad), (54, .bad), (77, .bad), (90, .bad), (108, .bad)], [], [(0, .box [.int .i64 (0 : Int), .nil, .nil]), (1, .box [.int .i64 p.Next, .own 7 2 0 out_1_1.length false, .own 6 3 0 out_2_3.length false]), (2, .arr 7 (List.map TMail.c out_1_1) 0), (3, .arr 6 (List.map TSub.c out_2_3) 0), (4, .arr 5 (List.map THit.c hits_2) 0)], 5⟩ (qf_21 r) := by
  unfold m_ref22_Open_k7 at h
  replace h := retS h; subst h
  refine Wp.seq (regP (seqN ?_))
  refine weakP [.cell 4 1 .frz, .cell 4 2 .frz, .at 5 .frz] (Wp.ret ?_)
  exact finP
theorem w_m_ref22_Open_k6 {p : TPost} {s : TSub} {out_1_1 : (List TMail)} {hits_2 : (List THit)} {mine_5_2 : Int} {done_3 : Bool} {out_2_2 : (List TSub)} {r : (TPost × (List THit) × Int)}   (h : m_ref22_Open_k6 p s out_1_1 hits_2 mine_5_2 done_3 out_2_2 = some r) : Wp Pg 117 0 (.seq (.seq (.reg none i21_R27) (.cond (.t 108) (.reg none i21_R28) .skip)) (.seq (.reg none i21_R29) .ret)) ⟨[(0, .bad), (1, .bad), (2, .bad), (3, .bad), (4, .ptr 0 0), (5, .bad), (6, .bad), (7, .ptr 1 0), (8, .own 5 4 0 hits_2.length false), (9, .ptr 5 0), (10, .bad), (11, .bad), (12, .bool done_3), (13, .bad), (21, .bad), (29, .bad), (34, .bad), (44, .bad), (54, .bad), (77, .bad), (90, .bad), (108, .bad)], [], (hs59 s (0 : Int) p.Next out_1_1 out_2_2 mine_5_2 hits_2), 6⟩ (qf_21 r) := by
  unfold m_ref22_Open_k6 at h
  refine Wp.seq (Wp.seq (regP (seqN ?_)))
  replace h := ifS h; rcases h with ⟨g23, h⟩ | ⟨g23, h⟩
  · refine condFP (Wp.skip (seqN ?_))
    exact jumpK [.kill [9, 12, 108], .tidy] (w_m_ref22_Open_k7 h)
  · refine condTP ?_
    replace h := reqS h; obtain ⟨g24, h⟩ := h
    refine regP (seqN ?_)
    exact jumpK [.kill [9, 12, 108], .tidy] (w_m_ref22_Open_k7 h)
theorem w_m_ref22_Open_k5 {s : TSub} {out_1_1 : (List TMail)} {hits_2 : (List THit)} {mine_5_2 : Int} {p : TPost} {i_1 : Int} {done_2 : Bool} {out_2_1 : (List TSub)} {r : (TPost × (List THit) × Int)} {rec_m_ref22_Open_l2 : Bool → Int → (List TSub) → Option (TPost × (List THit) × Int)} (hrec_m_ref22_Open_l2 : H_m_ref22_Open_l2 p s out_1_1 hits_2 mine_5_2 rec_m_ref22_Open_l2 r) (h : m_ref22_Open_k5 rec_m_ref22_Open_l2 p i_1 done_2 out_2_1 = some r) : Wp Pg 117 0 (.reg (some [(1, 7)]) i21_R25) ⟨[(0, .bad), (1, .bad), (2, .ptr 0 0), (3, .bad), (4, .ptr 1 0), (5, .bad), (6, .bad), (7, .ptr 2 0), (8, .own 5 5 0 hits_2.length false), (9, .ptr 6 0), (10, .bad), (11, .bad), (12, .bool done_2), (13, .int .i64 i_1), (21, .bad), (29, .bad), (34, .bad), (44, .bad), (54, .bad), (77, .bad), (90, .bad), (108, .bad)], [], (hs51 s p.Next p.Mails p.Subs (0 : Int) p.Next out_1_1 out_2_1 mine_5_2 hits_2), 7⟩ (blockQ 3 (seqQ Pg 117 0 (.reg none i21_R26) (loopQ Pg 117 0 i21_L1 (blockQ 2 (seqQ Pg 117 0 (.seq (.seq (.reg none i21_R27) (.cond (.t 108) (.reg none i21_R28) .skip)) (.seq (.reg none i21_R29) .ret)) (qf_21 r)))))) := by
  unfold m_ref22_Open_k5 at h
  replace h := bndS h; obtain ⟨e_2, g21, h⟩ := h
  replace h := reqS h; obtain ⟨g22, h⟩ := h
  refine drawP [] mixed (clsN _) (blockN (seqN ?_))
  refine regP (loopN ?_)
  exact jumpL [.tidy] (hrec_m_ref22_Open_l2 h)
theorem w_m_ref22_Open_k4 {out_1_1 : (List TMail)} {hits_2 : (List THit)} {p : TPost} {s : TSub} {mine_5_2 i_1 : Int} {out_2 : (List TSub)} {done_1 v90 : Bool} {r : (TPost × (List THit) × Int)} {rec_m_ref22_Open_l2 : Bool → Int → (List TSub) → Option (TPost × (List THit) × Int)} (hrec_m_ref22_Open_l2 : H_m_ref22_Open_l2 p s out_1_1 hits_2 mine_5_2 rec_m_ref22_Open_l2 r) (h : m_ref22_Open_k4 rec_m_ref22_Open_l2 p s mine_5_2 i_1 out_2 done_1 v90 = some r) : Wp Pg 117 0 (.cond (.t 90) (.seq (.reg none i21_R23) (.reg none i21_R24)) .skip) ⟨[(0, .bad), (1, .bad), (2, .ptr 0 0), (3, .bad), (4, .ptr 1 0), (5, .bad), (6, .bad), (7, .ptr 2 0), (8, .own 5 5 0 hits_2.length false), (9, .ptr 6 0), (10, .bad), (11, .bad), (12, .bool done_1), (13, .int .i64 i_1), (21, .bad), (29, .bad), (34, .bad), (44, .bad), (54, .bad), (77, .bad), (90, .bool v90), (108, .bad)], [], (hs51 s p.Next p.Mails p.Subs (0 : Int) p.Next out_1_1 out_2 mine_5_2 hits_2), 7⟩ (seqQ Pg 117 0 (.reg (some [(1, 7)]) i21_R25) (blockQ 3 (seqQ Pg 117 0 (.reg none i21_R26) (loopQ Pg 117 0 i21_L1 (blockQ 2 (seqQ Pg 117 0 (.seq (.seq (.reg none i21_R27) (.cond (.t 108) (.reg none i21_R28) .skip)) (.seq (.reg none i21_R29) .ret)) (qf_21 r))))))) := by
  unfold m_ref22_Open_k4 at h
  replace h := ifS h; rcases h with ⟨g19, h⟩ | ⟨g19, h⟩
  · refine condTP (Wp.seq ?_)
    replace h := reqS h; obtain ⟨g20, h⟩ := h
    refine regP (seqN ?_)
    refine regP (seqN ?_)
    exact jumpK [.kill [90], .tidy] (w_m_ref22_Open_k5 (s := s) (out_1_1 := out_1_1) (hits_2 := hits_2) (mine_5_2 := mine_5_2) hrec_m_ref22_Open_l2 h)
  · refine condFP (Wp.skip (seqN ?_))
    exact jumpK [.kill [90]] (w_m_ref22_Open_k5 (s := s) (out_1_1 := out_1_1) (hits_2 := hits_2) (mine_5_2 := mine_5_2) hrec_m_ref22_Open_l2 h)
theorem w_m_ref22_Open_l2_B {p : TPost} {s : TSub} {out_1_1 : (List TMail)} {hits_2 : (List THit)} {mine_5_2 : Int} {r : (TPost × (List THit) × Int)}   {rec_m_ref22_Open_l2 : Bool → Int → (List TSub) → Option (TPost × (List THit) × Int)} (hrec_m_ref22_Open_l2 : H_m_ref22_Open_l2 p s out_1_1 hits_2 mine_5_2 rec_m_ref22_Open_l2 r) {done : Bool} {i_1 : Int} {out_2 : (List TSub)} (h : m_ref22_Open_l2_B  p s out_1_1 hits_2 mine_5_2 rec_m_ref22_Open_l2 done i_1 out_2 = some r) : LWp Pg 117 0 i21_L1 ⟨[(0, .bad), (1, .bad), (2, .ptr 0 0), (3, .bad), (4, .ptr 1 0), (5, .bad), (6, .bad), (7, .ptr 2 0), (8, .own 5 5 0 hits_2.length false), (9, .ptr 6 0), (10, .bad), (11, .bad), (12, .bool done), (13, .int .i64 i_1), (21, .bad), (29, .bad), (34, .bad), (44, .bad), (54, .bad), (77, .bad), (90, .bad), (108, .bad)], [], (hs51 s p.Next p.Mails p.Subs (0 : Int) p.Next out_1_1 out_2 mine_5_2 hits_2), 7⟩ (blockQ 2 (seqQ Pg 117 0 (.seq (.seq (.reg none i21_R27) (.cond (.t 108) (.reg none i21_R28) .skip)) (.seq (.reg none i21_R29) .ret)) (qf_21 r))) := by
  unfold m_ref22_Open_l2_B at h
  refine LWp.stepC i21_L1.eq_1 ?_
  refine Wp.seq (Wp.seq (regP (seqN ?_)))
  replace h := ifS h; rcases h with ⟨g15, h⟩ | ⟨g15, h⟩
  · refine condTP (Wp.skip (seqN (Wp.seq (Wp.block (Wp.seq (Wp.seq ?_))))))
    replace h := ifS h; rcases h with ⟨g16, h⟩ | ⟨g16, h⟩
    · refine drawP [] mixed (clsN _) (seqN ?_)
      exact jumpK [.kill [77], .tidy] (w_m_ref22_Open_k4 (out_1_1 := out_1_1) (hits_2 := hits_2) hrec_m_ref22_Open_l2 h)
    · replace h := bndS h; obtain ⟨e_1, g17, h⟩ := h
      replace h := bndS h; obtain ⟨r0_5, g18, h⟩ := h
      refine drawP [] mixed (clsC 9 (tab_cons (w_m_ref22_ahead g18) (tab_nil _)) (clsN _)) (seqN ?_)
      exact jumpK [.kill [77], .tidy] (w_m_ref22_Open_k4 (out_1_1 := out_1_1) (hits_2 := hits_2) hrec_m_ref22_Open_l2 h)
  · refine condFP (Wp.out (seqO (loopO (blockO (seqN ?_)))))
    exact jumpK [.kill [2, 13, 77], .tidy] (w_m_ref22_Open_k6 h)
theorem w_m_ref22_Open_l2 {p : TPost} {s : TSub} {out_1_1 : (List TMail)} {hits_2 : (List THit)} {mine_5_2 : Int} {r : (TPost × (List THit) × Int)}   : ∀ (n : Nat), H_m_ref22_Open_l2 p s out_1_1 hits_2 mine_5_2 (m_ref22_Open_l2  p s out_1_1 hits_2 mine_5_2 n) r := by
  intro n
  induction n with
  | zero => intro done i_1 out_2 h; unfold m_ref22_Open_l2 at h; cases h
  | succ n ih => intro done i_1 out_2 h; unfold m_ref22_Open_l2 at h; exact w_m_ref22_Open_l2_B  ih h
theorem w_m_ref22_Open_k3 {p : TPost} {s : TSub} {out_1_1 : (List TMail)} {hits_2 : (List THit)} {mine_5_2 : Int} {r : (TPost × (List THit) × Int)}   (h : m_ref22_Open_k3 p s out_1_1 hits_2 mine_5_2 = some r) : Wp Pg 117 0 (.seq (.reg none i21_R19) (.seq (.seq (.reg none i21_R20) (.block 2 (.loop i21_L1))) (.seq (.seq (.reg none i21_R27) (.cond (.t 108) (.reg none i21_R28) .skip)) (.seq (.reg none i21_R29) .ret)))) ⟨[(0, .bad), (1, .bad), (2, .ptr 0 0), (3, .bad), (4, .ptr 1 0), (5, .bad), (6, .bad), (7, .ptr 2 0), (8, .own 5 4 0 hits_2.length false), (9, .ptr 5 0), (10, .bad), (11, .bad), (12, .bad), (13, .bad), (21, .bad), (29, .bad), (34, .bad), (44, .bad), (54, .bad), (77, .bad), (90, .bad), (108, .bad)], [], (hs39 s p.Next p.Mails p.Subs (0 : Int) p.Next out_1_1 mine_5_2 hits_2), 6⟩ (qf_21 r) := by
  unfold m_ref22_Open_k3 at h
  refine Wp.seq (regP (seqN (Wp.seq (Wp.seq ?_))))
  refine regP (seqN (Wp.block (Wp.loop ?_)))
  exact jumpL [.cell 7 2 (.virt 6), .tidy] (w_m_ref22_Open_l2 _ h)
theorem w_m_ref22_Open_k2 {p : TPost} {s : TSub} {i : Int} {out_1 : (List TMail)} {hits_1 : (List THit)} {mine_5_1 m_00 : Int} {m_10 : ByteArray} {m_20 : Int} {m_30 : (List ByteArray)} {m_40 : (List Int)} {m_50 : Int} {m_60 : (List TWho)} {r : (TPost × (List THit) × Int)} {rec_m_ref22_Open_l1 : Int → (List TMail) → (List THit) → Int → Option (TPost × (List THit) × Int)} (hrec_m_ref22_Open_l1 : H_m_ref22_Open_l1 p s rec_m_ref22_Open_l1 r) (h : m_ref22_Open_k2 rec_m_ref22_Open_l1 i out_1 hits_1 mine_5_1 m_00 m_10 m_20 m_30 m_40 m_50 m_60 = some r) : Wp Pg 117 0 (.reg none i21_R17) ⟨[(0, .bad), (1, .bad), (2, .ptr 0 0), (3, .bad), (4, .ptr 1 0), (5, .bad), (6, .bad), (7, .ptr 2 0), (8, .own 5 4 0 hits_1.length false), (9, .ptr 5 0), (10, .int .i64 i), (11, .ptr 6 0), (12, .bad), (13, .bad), (21, .bad), (29, .bad), (34, .bad), (44, .bad), (54, .bad), (77, .bad), (90, .bad), (108, .bad)], [], (hs68 s p.Next p.Mails p.Subs (0 : Int) p.Next out_1 mine_5_1 m_00 m_10 m_20 m_30 m_40 m_50 m_60 hits_1), 7⟩ (blockQ 1 (seqQ Pg 117 0 (.reg none i21_R18) (loopQ Pg 117 0 i21_L0 (blockQ 0 (seqQ Pg 117 0 (.seq (.reg none i21_R19) (.seq (.seq (.reg none i21_R20) (.block 2 (.loop i21_L1))) (.seq (.seq (.reg none i21_R27) (.cond (.t 108) (.reg none i21_R28) .skip)) (.seq (.reg none i21_R29) .ret)))) (qf_21 r)))))) := by
  unfold m_ref22_Open_k2 at h
  replace h := reqS h; obtain ⟨g14, h⟩ := h
  refine regP (blockN (seqN ?_))
  refine regP (loopN ?_)
  exact jumpL [.kill [11], .tidy] (hrec_m_ref22_Open_l1 h)
theorem w_m_ref22_Open_l1_B {p : TPost} {s : TSub} {r : (TPost × (List THit) × Int)}   {rec_m_ref22_Open_l1 : Int → (List TMail) → (List THit) → Int → Option (TPost × (List THit) × Int)} (hrec_m_ref22_Open_l1 : H_m_ref22_Open_l1 p s rec_m_ref22_Open_l1 r) {i : Int} {out_1 : (List TMail)} {hits : (List THit)} {mine_5 : Int} (h : m_ref22_Open_l1_B  p s rec_m_ref22_Open_l1 i out_1 hits mine_5 = some r) : LWp Pg 117 0 i21_L0 ⟨[(0, .bad), (1, .bad), (2, .ptr 0 0), (3, .bad), (4, .ptr 1 0), (5, .bad), (6, .bad), (7, .ptr 2 0), (8, .own 5 4 0 hits.length false), (9, .ptr 5 0), (10, .int .i64 i), (11, .bad), (12, .bad), (13, .bad), (21, .bad), (29, .bad), (34, .bad), (44, .bad), (54, .bad), (77, .bad), (90, .bad), (108, .bad)], [], (hs39 s p.Next p.Mails p.Subs (0 : Int) p.Next out_1 mine_5 hits), 6⟩ (blockQ 0 (seqQ Pg 117 0 (.seq (.reg none i21_R19) (.seq (.seq (.reg none i21_R20) (.block 2 (.loop i21_L1))) (.seq (.seq (.reg none i21_R27) (.cond (.t 108) (.reg none i21_R28) .skip)) (.seq (.reg none i21_R29) .ret)))) (qf_21 r))) := by
  unfold m_ref22_Open_l1_B at h
  refine LWp.stepC i21_L0.eq_1 ?_
  refine Wp.seq (Wp.seq (regP (seqN ?_)))
  replace h := ifS h; rcases h with ⟨g7, h⟩ | ⟨g7, h⟩
  · refine condTP (Wp.skip (seqN (Wp.seq (Wp.block (Wp.seq ?_)))))
    replace h := bndS h; obtain ⟨e, g8, h⟩ := h
    refine regP (seqN (Wp.seq (Wp.seq (Wp.reg ?_))))
    replace h := bndS h; obtain ⟨r0_2, g9, h⟩ := h
    refine lastT (tab_cons (w_m_ref22_suits g9) (tab_nil _)) (seqN ?_)
    replace h := ifS h; rcases h with ⟨g10, h⟩ | ⟨g10, h⟩
    · refine condTP (Wp.seq (Wp.reg ?_))
      replace h := bndS h; obtain ⟨r0_3, g11, h⟩ := h
      refine chunkT 4 (tab_cons (w_m_ref22_hit g11) (tab_nil _)) ?_
      replace h := reqS h; obtain ⟨g12, h⟩ := h
      refine lastT (tab_nil _) (seqN (Wp.seq (Wp.reg ?_)))
      replace h := bndS h; obtain ⟨r0_4, g13, h⟩ := h
      refine chunkT 3 (tab_cons (w_m_ref22_and g13) (tab_nil _)) ?_
      refine lastT (tab_nil _) (seqN ?_)
      refine regP (seqN ?_)
      exact jumpK [.kill [44, 54], .tidy] (w_m_ref22_Open_k2 (p := p) (s := s) hrec_m_ref22_Open_l1 h)
    · refine condFP (Wp.skip (seqN ?_))
      exact jumpK [.kill [44, 54], .tidy] (w_m_ref22_Open_k2 (p := p) (s := s) hrec_m_ref22_Open_l1 h)
  · refine condFP (Wp.out (seqO (loopO (blockO (seqN ?_)))))
    exact jumpK [.kill [10, 44]] (w_m_ref22_Open_k3 h)
theorem w_m_ref22_Open_l1 {p : TPost} {s : TSub} {r : (TPost × (List THit) × Int)}   : ∀ (n : Nat), H_m_ref22_Open_l1 p s (m_ref22_Open_l1  p s n) r := by
  intro n
  induction n with
  | zero => intro i out_1 hits mine_5 h; unfold m_ref22_Open_l1 at h; cases h
  | succ n ih => intro i out_1 hits mine_5 h; unfold m_ref22_Open_l1 at h; exact w_m_ref22_Open_l1_B  ih h
theorem w_m_ref22_Open_k1 {p : TPost} {s : TSub} {v21 : Bool} {r : (TPost × (List THit) × Int)}   (h : m_ref22_Open_k1 p s v21 = some r) : Wp Pg 117 0 (.cond (.t 21) (.seq (.reg none i21_R2) .ret) .skip) ⟨[(0, .bad), (1, .bad), (2, .ptr 0 0), (3, .ptr 1 0), (4, .ptr 2 0), (5, .bad), (6, .bad), (7, .bad), (8, .bad), (9, .bad), (10, .bad), (11, .bad), (12, .bad), (13, .bad), (21, .bool v21), (29, .bad), (34, .bad), (44, .bad), (54, .bad), (77, .bad), (90, .bad), (108, .bad)], [], (hs25 s p.Next p.Mails p.Subs (0 : Int)), 3⟩ (seqQ Pg 117 0 (.seq (.seq (.reg none i21_R3) (.cond (.t 29) (.seq (.reg none i21_R4) .ret) .skip)) (.seq (.seq (.reg none i21_R5) (.cond (.t 34) (.seq (.reg none i21_R6) .ret) .skip)) (.seq (.reg none i21_R7) (.seq (.reg none i21_R8) (.seq (.reg none i21_R9) (.seq (.seq (.reg none i21_R10) (.block 0 (.loop i21_L0))) (.seq (.reg none i21_R19) (.seq (.seq (.reg none i21_R20) (.block 2 (.loop i21_L1))) (.seq (.seq (.reg none i21_R27) (.cond (.t 108) (.reg none i21_R28) .skip)) (.seq (.reg none i21_R29) .ret)))))))))) (qf_21 r)) := by
  unfold m_ref22_Open_k1 at h
  replace h := ifS h; rcases h with ⟨g3, h⟩ | ⟨g3, h⟩
  · replace h := retS h; subst h
    refine condTP (Wp.seq ?_)
    refine regP (seqN ?_)
    refine weakP [.cell 4 1 .frz, .cell 4 2 .frz, .at 5 .frz] (Wp.ret (seqR ?_))
    exact finP
  · refine condFP (Wp.skip (seqN (Wp.seq (Wp.seq (Wp.reg ?_)))))
    replace h := bndS h; obtain ⟨r0_1, g4, h⟩ := h
    refine chunkT 6 (tab_cons (w_m_ref22_Find g4) (tab_nil _)) ?_
    refine lastT (tab_nil _) (seqN ?_)
    replace h := ifS h; rcases h with ⟨g5, h⟩ | ⟨g5, h⟩
    · replace h := retS h; subst h
      refine condTP (Wp.seq ?_)
      refine regP (seqN ?_)
      refine weakP [.cell 4 1 .frz, .cell 4 2 .frz, .at 5 .frz] (Wp.ret (seqR ?_))
      exact finP
    · refine condFP (Wp.skip (seqN (Wp.seq (Wp.seq ?_))))
      refine regP (seqN ?_)
      replace h := ifS h; rcases h with ⟨g6, h⟩ | ⟨g6, h⟩
      · replace h := retS h; subst h
        refine condTP (Wp.seq ?_)
        refine regP (seqN ?_)
        refine weakP [.cell 4 1 .frz, .cell 4 2 .frz, .at 5 .frz] (Wp.ret (seqR ?_))
        exact finP
      · refine condFP (Wp.skip (seqN (Wp.seq ?_)))
        refine regP (seqN (Wp.seq ?_))
        refine regP (seqN (Wp.seq ?_))
        refine regP (seqN (Wp.seq (Wp.seq ?_)))
        refine regP (seqN (Wp.block (Wp.loop ?_)))
        exact jumpL [.kill [3, 21, 29, 34], .at 8 (.virt 5), .cell 7 1 (.virt 7), .tidy] (w_m_ref22_Open_l1 _ h)
theorem w_m_ref22_Open {p : TPost} {s : TSub} {r : (TPost × (List THit) × Int)}   (h : m_ref22_Open p s = some r) : Spec Pg 21 [.agg [.int .i64 p.Next, sl TMail.c p.Mails, sl TSub.c p.Subs], .agg [.int .i64 s.Part, .int .i64 s.Id, .int .i64 s.Inst, .str s.Name, .int .i64 s.Key, .int .i64 s.Mail]] [] 0 (.tup [.agg [.int .i64 r.1.Next, sl TMail.c r.1.Mails, sl TSub.c r.1.Subs], sl THit.c r.2.1, .int .i64 r.2.2]) [] 0 := by
  refine Spec.intro Try.func21 i21_ok (le_of_ble rfl) ?_
  show Wp Pg 117 0 i21_B ⟨argEnv _ i21_V, [], _, _⟩ (qf_21 r)
  unfold m_ref22_Open at h
  unfold i21_B
  refine weakP [] ?_
  refine Wp.seq (regP (seqN (Wp.seq (Wp.seq (Wp.reg ?_)))))
  replace h := bndS h; obtain ⟨r0, g1, h⟩ := h
  refine chunkT 2 (tab_cons (w_m_ref22_Sub g1) (tab_nil _)) ?_
  replace h := ifS h; rcases h with ⟨g2, h⟩ | ⟨g2, h⟩
  · refine lastT (tab_nil _) (seqN ?_)
    exact jumpK [.kill [0, 1, 5, 6, 7, 8, 9, 10, 11, 12, 13, 29, 34, 44, 54, 77, 90, 108], .tidy] (w_m_ref22_Open_k1 h)
  · refine lastT (tab_nil _) (seqN ?_)
    exact jumpK [.kill [0, 1, 5, 6, 7, 8, 9, 10, 11, 12, 13, 29, 34, 44, 54, 77, 90, 108], .tidy] (w_m_ref22_Open_k1 h)
/-! funicular/post.Close -/
noncomputable abbrev qf_22 (r : (TPost × Int)) : Ex → St → Prop := FinQ 0 [.cell 6 true 3, .tmp 7] (.tup [.agg [.int .i64 r.1.Next, sl TMail.c r.1.Mails, sl TSub.c r.1.Subs], .int .i64 r.2]) [] 0
theorem w_m_post_Close {p : TPost} {part : Int} {id : Int} {r : (TPost × Int)}   (h : m_post_Close p part id = some r) : Spec Pg 22 [.agg [.int .i64 p.Next, sl TMail.c p.Mails, sl TSub.c p.Subs], .int .i64 part, .int .i64 id] [] 0 (.tup [.agg [.int .i64 r.1.Next, sl TMail.c r.1.Mails, sl TSub.c r.1.Subs], .int .i64 r.2]) [] 0 := by
  refine Spec.intro Try.func22 i22_ok (le_of_ble rfl) ?_
  show Wp Pg 32 0 i22_B ⟨argEnv _ i22_V, [], _, _⟩ (qf_22 r)
  unfold m_post_Close at h
  unfold i22_B
  refine weakP [] ?_
  refine Wp.seq (regP (seqN (Wp.seq (Wp.reg ?_))))
  replace h := bndS h; obtain ⟨r0, g1, h⟩ := h
  refine chunkT 5 (tab_cons (w_m_post_find g1) (tab_nil _)) ?_
  refine lastT (tab_nil _) (seqN (Wp.seq (Wp.seq ?_)))
  refine regP (seqN ?_)
  replace h := ifS h; rcases h with ⟨g2, h⟩ | ⟨g2, h⟩
  · refine condFP (Wp.skip (seqN (Wp.seq (Wp.reg ?_))))
    replace h := bndS h; obtain ⟨r0_1, g3, h⟩ := h
    refine chunkF 2 (tab_cons (w_m_post_Copy g3) (tab_nil _)) ?_
    refine lastT (tab_nil _) (seqN (Wp.seq (Wp.reg ?_)))
    replace h := reqS h; obtain ⟨g4, h⟩ := h
    replace h := reqS h; obtain ⟨g5, h⟩ := h
    replace h := reqS h; obtain ⟨g6, h⟩ := h
    replace h := reqS h; obtain ⟨g7, h⟩ := h
    replace h := retS h; subst h
    refine chunkF 6 (tab_cons (w_del delOk (f := 67) (es := 6) rfl (c := TSub.c) (l := r0_1.Subs) (i := r0.1) (j := (IntKind.i64.wrap (r0.1 + (1 : Int)))) g4 g5 g6 g7 false) (tab_nil _)) ?_
    refine lastT (tab_nil _) (seqN (Wp.seq ?_))
    refine regP (seqN ?_)
    refine weakP [.cell 6 1 .frz, .cell 6 2 .frz] (Wp.ret ?_)
    exact finP
  · replace h := retS h; subst h
    refine condTP (Wp.seq ?_)
    refine regP (seqN ?_)
    refine weakP [.cell 6 1 .frz, .cell 6 2 .frz] (Wp.ret (seqR ?_))
    exact finP
/-! funicular/funicularref22.Close -/
noncomputable abbrev qf_23 (r : (TPost × Int)) : Ex → St → Prop := FinQ 0 [.cell 6 true 3, .tmp 7] (.tup [.agg [.int .i64 r.1.Next, sl TMail.c r.1.Mails, sl TSub.c r.1.Subs], .int .i64 r.2]) [] 0
noncomputable abbrev H_m_ref22_Close_l1 (p : TPost) (r0 : Int) (rec0 : Int → (List TSub) → Option (TPost × Int)) (r : (TPost × Int)) : Prop := ∀ {i : Int} {out_2 : (List TSub)}, rec0 i out_2 = some r → LWp Pg 44 0 i23_L0 ⟨[(0, .bad), (1, .bad), (2, .bad), (3, .ptr 0 0), (6, .ptr 1 0), (7, .bad), (8, .int .i64 r0), (9, .ptr 2 0), (10, .int .i64 i), (16, .bad), (27, .bad), (32, .bad)], [], [(0, .box [.int .i64 p.Next, sl TMail.c p.Mails, sl TSub.c p.Subs]), (1, .box [.int .i64 (0 : Int), .nil, .nil]), (2, .box [.int .i64 p.Next, sl TMail.c p.Mails, .own 6 3 0 out_2.length false]), (3, .arr 6 (List.map TSub.c out_2) 0)], 4⟩ (blockQ 0 (seqQ Pg 44 0 (.seq (.reg none i23_R10) .ret) (qf_23 r)))
theorem w_m_ref22_Close_k2 {p : TPost} {out_2_2 : (List TSub)} {r : (TPost × Int)}   (h : m_ref22_Close_k2 p out_2_2 = some r) : Wp Pg 44 0 (.seq (.reg none i23_R10) .ret) ⟨[(0, .bad), (1, .bad), (2, .bad), (3, .bad), (6, .ptr 0 0), (7, .bad), (8, .bad), (9, .ptr 1 0), (10, .bad), (16, .bad), (27, .bad), (32, .bad)], [], [(0, .box [.int .i64 (0 : Int), .nil, .nil]), (1, .box [.int .i64 p.Next, sl TMail.c p.Mails, .own 6 2 0 out_2_2.length false]), (2, .arr 6 (List.map TSub.c out_2_2) 0)], 3⟩ (qf_23 r) := by
  unfold m_ref22_Close_k2 at h
  replace h := retS h; subst h
  refine Wp.seq (regP (seqN ?_))
  refine weakP [.cell 6 2 .frz] (Wp.ret ?_)
  exact finP
theorem w_m_ref22_Close_k1 {p : TPost} {r0 i : Int} {out_2_1 : (List TSub)} {r : (TPost × Int)} {rec_m_ref22_Close_l1 : Int → (List TSub) → Option (TPost × Int)} (hrec_m_ref22_Close_l1 : H_m_ref22_Close_l1 p r0 rec_m_ref22_Close_l1 r) (h : m_ref22_Close_k1 rec_m_ref22_Close_l1 i out_2_1 = some r) : Wp Pg 44 0 (.reg none i23_R9) ⟨[(0, .bad), (1, .bad), (2, .bad), (3, .ptr 0 0), (6, .ptr 1 0), (7, .bad), (8, .int .i64 r0), (9, .ptr 2 0), (10, .int .i64 i), (16, .bad), (27, .bad), (32, .bad)], [], [(0, .box [.int .i64 p.Next, sl TMail.c p.Mails, sl TSub.c p.Subs]), (1, .box [.int .i64 (0 : Int), .nil, .nil]), (2, .box [.int .i64 p.Next, sl TMail.c p.Mails, .own 6 3 0 out_2_1.length false]), (3, .arr 6 (List.map TSub.c out_2_1) 0)], 4⟩ (loopQ Pg 44 0 i23_L0 (blockQ 0 (seqQ Pg 44 0 (.seq (.reg none i23_R10) .ret) (qf_23 r)))) := by
  unfold m_ref22_Close_k1 at h
  refine regP (loopN ?_)
  exact jumpL [] (hrec_m_ref22_Close_l1 h)
theorem w_m_ref22_Close_l1_B {p : TPost} {r0 : Int} {r : (TPost × Int)}   {rec_m_ref22_Close_l1 : Int → (List TSub) → Option (TPost × Int)} (hrec_m_ref22_Close_l1 : H_m_ref22_Close_l1 p r0 rec_m_ref22_Close_l1 r) {i : Int} {out_2 : (List TSub)} (h : m_ref22_Close_l1_B  p r0 rec_m_ref22_Close_l1 i out_2 = some r) : LWp Pg 44 0 i23_L0 ⟨[(0, .bad), (1, .bad), (2, .bad), (3, .ptr 0 0), (6, .ptr 1 0), (7, .bad), (8, .int .i64 r0), (9, .ptr 2 0), (10, .int .i64 i), (16, .bad), (27, .bad), (32, .bad)], [], [(0, .box [.int .i64 p.Next, sl TMail.c p.Mails, sl TSub.c p.Subs]), (1, .box [.int .i64 (0 : Int), .nil, .nil]), (2, .box [.int .i64 p.Next, sl TMail.c p.Mails, .own 6 3 0 out_2.length false]), (3, .arr 6 (List.map TSub.c out_2) 0)], 4⟩ (blockQ 0 (seqQ Pg 44 0 (.seq (.reg none i23_R10) .ret) (qf_23 r))) := by
  unfold m_ref22_Close_l1_B at h
  refine LWp.stepC i23_L0.eq_1 ?_
  refine Wp.seq (Wp.seq (regP (seqN ?_)))
  replace h := ifS h; rcases h with ⟨g3, h⟩ | ⟨g3, h⟩
  · refine condTP (Wp.skip (seqN (Wp.seq (Wp.block (Wp.seq ?_)))))
    refine regP (seqN ?_)
    replace h := ifS h; rcases h with ⟨g4, h⟩ | ⟨g4, h⟩
    · refine condTP ?_
      replace h := bndS h; obtain ⟨e, g5, h⟩ := h
      replace h := reqS h; obtain ⟨g6, h⟩ := h
      refine drawP [] mixed (clsN _) (blockN (seqN ?_))
      exact jumpK [.kill [27, 32], .tidy] (w_m_ref22_Close_k1 (p := p) (r0 := r0) hrec_m_ref22_Close_l1 h)
    · refine condFP (Wp.skip (blockN (seqN ?_)))
      exact jumpK [.kill [27, 32]] (w_m_ref22_Close_k1 (p := p) (r0 := r0) hrec_m_ref22_Close_l1 h)
  · refine condFP (Wp.out (seqO (loopO (blockO (seqN ?_)))))
    exact jumpK [.kill [3, 8, 10, 27], .tidy] (w_m_ref22_Close_k2 h)
theorem w_m_ref22_Close_l1 {p : TPost} {r0 : Int} {r : (TPost × Int)}   : ∀ (n : Nat), H_m_ref22_Close_l1 p r0 (m_ref22_Close_l1  p r0 n) r := by
  intro n
  induction n with
  | zero => intro i out_2 h; unfold m_ref22_Close_l1 at h; cases h
  | succ n ih => intro i out_2 h; unfold m_ref22_Close_l1 at h; exact w_m_ref22_Close_l1_B  ih h
theorem w_m_ref22_Close {p : TPost} {part : Int} {id : Int} {r : (TPost × Int)}   (h : m_ref22_Close p part id = some r) : Spec Pg 23 [.agg [.int .i64 p.Next, sl TMail.c p.Mails, sl TSub.c p.Subs], .int .i64 part, .int .i64 id] [] 0 (.tup [.agg [.int .i64 r.1.Next, sl TMail.c r.1.Mails, sl TSub.c r.1.Subs], .int .i64 r.2]) [] 0 := by
  refine Spec.intro Try.func23 i23_ok (le_of_ble rfl) ?_
  show Wp Pg 44 0 i23_B ⟨argEnv _ i23_V, [], _, _⟩ (qf_23 r)
  unfold m_ref22_Close at h
  unfold i23_B
  refine weakP [] ?_
  refine Wp.seq (regP (seqN (Wp.seq (Wp.reg ?_))))
  replace h := bndS h; obtain ⟨r0, g1, h⟩ := h
  refine chunkT 4 (tab_cons (w_m_ref22_Find g1) (tab_nil _)) ?_
  refine lastT (tab_nil _) (seqN (Wp.seq (Wp.seq ?_)))
  refine regP (seqN ?_)
  replace h := ifS h; rcases h with ⟨g2, h⟩ | ⟨g2, h⟩
  · replace h := retS h; subst h
    refine condTP (Wp.seq ?_)
    refine regP (seqN ?_)
    refine weakP [.cell 6 1 .frz, .cell 6 2 .frz] (Wp.ret (seqR ?_))
    exact finP
  · refine condFP (Wp.skip (seqN (Wp.seq ?_)))
    refine regP (seqN (Wp.seq (Wp.seq ?_)))
    refine regP (seqN (Wp.block (Wp.loop ?_)))
    exact jumpL [.kill [0, 1, 2, 7, 16, 27, 32], .cell 9 2 (.virt 6), .tidy] (w_m_ref22_Close_l1 _ h)
/-! funicular/post.Expire -/
noncomputable abbrev qf_24 (r : TPost) : Ex → St → Prop := FinQ 0 [.cell 4 true 3] (.agg [.int .i64 r.Next, sl TMail.c r.Mails, sl TSub.c r.Subs]) [] 0
theorem w_m_post_Expire {p : TPost} {now : Int} {r : TPost}   (h : m_post_Expire p now = some r) : Spec Pg 24 [.agg [.int .i64 p.Next, sl TMail.c p.Mails, sl TSub.c p.Subs], .int .i64 now] [] 0 (.agg [.int .i64 r.Next, sl TMail.c r.Mails, sl TSub.c r.Subs]) [] 0 := by
  refine Spec.intro Try.func24 i24_ok (le_of_ble rfl) ?_
  show Wp Pg 14 0 i24_B ⟨argEnv _ i24_V, [], _, _⟩ (qf_24 r)
  unfold m_post_Expire at h
  unfold i24_B
  refine weakP [] ?_
  refine Wp.seq (regP (seqN (Wp.seq (Wp.reg ?_))))
  replace h := bndS h; obtain ⟨r0, g1, h⟩ := h
  refine chunkF 2 (tab_cons (w_m_post_Copy g1) (tab_nil _)) ?_
  refine lastT (tab_nil _) (seqN (Wp.seq (Wp.reg ?_)))
  replace h := bndS h; obtain ⟨r0_1, g2, h⟩ := h
  replace h := retS h; subst h
  refine chunkF 4 (tab_cons (w_m_slices_DeleteFunc_api_Mail_api_Mail g2) (tab_nil _)) ?_
  refine lastT (tab_nil _) (seqN (Wp.seq ?_))
  refine regP (seqN ?_)
  refine weakP [.cell 4 1 .frz, .cell 4 2 .frz] (Wp.ret ?_)
  exact finP
/-! funicular/funicularref22.Expire -/
noncomputable abbrev qf_25 (r : TPost) : Ex → St → Prop := FinQ 0 [.cell 4 true 3] (.agg [.int .i64 r.Next, sl TMail.c r.Mails, sl TSub.c r.Subs]) [] 0
noncomputable abbrev H_m_ref22_Expire_l1 (p : TPost) (now : Int) (rec0 : Int → (List TMail) → Option TPost) (r : TPost) : Prop := ∀ {i : Int} {out_1 : (List TMail)}, rec0 i out_1 = some r → LWp Pg 38 0 i25_L0 ⟨[(0, .bad), (1, .int .i64 now), (2, .ptr 0 0), (4, .ptr 1 0), (5, .ptr 2 0), (6, .int .i64 i), (16, .bad), (26, .bad)], [], [(0, .box [.int .i64 p.Next, sl TMail.c p.Mails, sl TSub.c p.Subs]), (1, .box [.int .i64 (0 : Int), .nil, .nil]), (2, .box [.int .i64 p.Next, .own 7 3 0 out_1.length false, sl TSub.c p.Subs]), (3, .arr 7 (List.map TMail.c out_1) 0)], 4⟩ (blockQ 0 (seqQ Pg 38 0 (.seq (.reg none i25_R7) .ret) (qf_25 r)))
theorem w_m_ref22_Expire_k1 {p : TPost} {now i : Int} {out_1_1 : (List TMail)} {r : TPost} {rec_m_ref22_Expire_l1 : Int → (List TMail) → Option TPost} (hrec_m_ref22_Expire_l1 : H_m_ref22_Expire_l1 p now rec_m_ref22_Expire_l1 r) (h : m_ref22_Expire_k1 rec_m_ref22_Expire_l1 i out_1_1 = some r) : Wp Pg 38 0 (.reg none i25_R6) ⟨[(0, .bad), (1, .int .i64 now), (2, .ptr 0 0), (4, .ptr 1 0), (5, .ptr 2 0), (6, .int .i64 i), (16, .bad), (26, .bad)], [], [(0, .box [.int .i64 p.Next, sl TMail.c p.Mails, sl TSub.c p.Subs]), (1, .box [.int .i64 (0 : Int), .nil, .nil]), (2, .box [.int .i64 p.Next, .own 7 3 0 out_1_1.length false, sl TSub.c p.Subs]), (3, .arr 7 (List.map TMail.c out_1_1) 0)], 4⟩ (loopQ Pg 38 0 i25_L0 (blockQ 0 (seqQ Pg 38 0 (.seq (.reg none i25_R7) .ret) (qf_25 r)))) := by
  unfold m_ref22_Expire_k1 at h
  refine regP (loopN ?_)
  exact jumpL [] (hrec_m_ref22_Expire_l1 h)
theorem w_m_ref22_Expire_l1_B {p : TPost} {now : Int} {r : TPost}   {rec_m_ref22_Expire_l1 : Int → (List TMail) → Option TPost} (hrec_m_ref22_Expire_l1 : H_m_ref22_Expire_l1 p now rec_m_ref22_Expire_l1 r) {i : Int} {out_1 : (List TMail)} (h : m_ref22_Expire_l1_B  p now rec_m_ref22_Expire_l1 i out_1 = some r) : LWp Pg 38 0 i25_L0 ⟨[(0, .bad), (1, .int .i64 now), (2, .ptr 0 0), (4, .ptr 1 0), (5, .ptr 2 0), (6, .int .i64 i), (16, .bad), (26, .bad)], [], [(0, .box [.int .i64 p.Next, sl TMail.c p.Mails, sl TSub.c p.Subs]), (1, .box [.int .i64 (0 : Int), .nil, .nil]), (2, .box [.int .i64 p.Next, .own 7 3 0 out_1.length false, sl TSub.c p.Subs]), (3, .arr 7 (List.map TMail.c out_1) 0)], 4⟩ (blockQ 0 (seqQ Pg 38 0 (.seq (.reg none i25_R7) .ret) (qf_25 r))) := by
  unfold m_ref22_Expire_l1_B at h
  refine LWp.stepC i25_L0.eq_1 ?_
  refine Wp.seq (Wp.seq (regP (seqN ?_)))
  replace h := ifS h; rcases h with ⟨g1, h⟩ | ⟨g1, h⟩
  · refine condTP (Wp.skip (seqN (Wp.seq (Wp.block (Wp.seq ?_)))))
    replace h := bndS h; obtain ⟨e, g2, h⟩ := h
    refine regP (seqN ?_)
    replace h := ifS h; rcases h with ⟨g3, h⟩ | ⟨g3, h⟩
    · refine condTP ?_
      replace h := reqS h; obtain ⟨g4, h⟩ := h
      refine drawP [] mixed (clsN _) (blockN (seqN ?_))
      exact jumpK [.kill [16, 26], .tidy] (w_m_ref22_Expire_k1 (p := p) (now := now) hrec_m_ref22_Expire_l1 h)
    · refine condFP (Wp.skip (blockN (seqN ?_)))
      exact jumpK [.kill [16, 26]] (w_m_ref22_Expire_k1 (p := p) (now := now) hrec_m_ref22_Expire_l1 h)
  · replace h := retS h; subst h
    refine condFP (Wp.out (seqO (loopO (blockO (seqN (Wp.seq ?_))))))
    refine regP (seqN ?_)
    refine weakP [.cell 4 1 .frz] (Wp.ret ?_)
    exact finP
theorem w_m_ref22_Expire_l1 {p : TPost} {now : Int} {r : TPost}   : ∀ (n : Nat), H_m_ref22_Expire_l1 p now (m_ref22_Expire_l1  p now n) r := by
  intro n
  induction n with
  | zero => intro i out_1 h; unfold m_ref22_Expire_l1 at h; cases h
  | succ n ih => intro i out_1 h; unfold m_ref22_Expire_l1 at h; exact w_m_ref22_Expire_l1_B  ih h
theorem w_m_ref22_Expire {p : TPost} {now : Int} {r : TPost}   (h : m_ref22_Expire p now = some r) : Spec Pg 25 [.agg [.int .i64 p.Next, sl TMail.c p.Mails, sl TSub.c p.Subs], .int .i64 now] [] 0 (.agg [.int .i64 r.Next, sl TMail.c r.Mails, sl TSub.c r.Subs]) [] 0 := by
  refine Spec.intro Try.func25 i25_ok (le_of_ble rfl) ?_
  show Wp Pg 38 0 i25_B ⟨argEnv _ i25_V, [], _, _⟩ (qf_25 r)
  unfold m_ref22_Expire at h
  unfold i25_B
  refine weakP [] ?_
  refine Wp.seq (regP (seqN (Wp.seq ?_)))
  refine regP (seqN (Wp.seq (Wp.seq ?_)))
  refine regP (seqN (Wp.block (Wp.loop ?_)))
  exact jumpL [.kill [0, 16, 26], .cell 5 1 (.virt 7), .tidy] (w_m_ref22_Expire_l1 _ h)
theorem w_m_law22_works {r : Bool} (h : m_law22_works = some r) : Spec Pg 9 [] [] 0 (.bool r) [] 0 := by
  obtain rfl := retS h
  exact m_law22_works_spec
end Go.Proofs.Ytefjblgmnoheiaa.R

/- The program's functions answer what the models answer: 7. -/
set_option maxRecDepth 100000
set_option maxHeartbeats 1600000
set_option linter.unusedVariables false
set_option linter.unusedSimpArgs false
set_option linter.defProp false
noncomputable section
namespace Go.Proofs.Ytefjblgmnoheiaa.R
open Go Nat
/-! funicular/funicularlaw22.PostDoes -/
noncomputable abbrev qf_4 (r : Bool) : Ex → St → Prop := FinQ 0 [.tmp 4] (.bool r) [] 0
theorem w_m_law22_PostDoes_k3 {r0_7 r0_8 : (TPost × (List THit) × Int)} {p : TPost} {o : TOp} {v121 : Bool} {r : Bool}   (h : m_law22_PostDoes_k3 p o v121 = some r) : Wp Pg 162 0 (.cond (.t 121) (.seq (.reg none i4_R10) .ret) .skip) ⟨[(0, .bad), (1, .bad), (2, .ptr 0 0), (3, .ptr 1 0), (4, .bad), (5, .ptr 2 0), (6, .bad), (7, .bad), (8, .bad), (9, .ptr 3 0), (10, .bad), (11, .bad), (12, .bad), (35, .bad), (90, .bad), (121, .bool v121)], [], (hs3 o p.Next p.Mails p.Subs r0_7.1.Next r0_7.1.Mails r0_7.1.Subs r0_8.1.Next r0_8.1.Mails r0_8.1.Subs), 4⟩ (seqQ Pg 162 0 (.seq (.reg none i4_R11) (.seq (.reg none i4_R12) (.seq (.reg (some [(12, 13), (12, 15)]) i4_R13) .ret))) (qf_4 r)) := by
  unfold m_law22_PostDoes_k3 at h
  replace h := ifS h; rcases h with ⟨g22, h⟩ | ⟨g22, h⟩
  · replace h := retS h; subst h
    refine condTP (Wp.seq ?_)
    refine regP (seqN (Wp.ret (seqR ?_)))
    exact finP
  · refine condFP (Wp.skip (seqN (Wp.seq (Wp.reg ?_))))
    replace h := bndS h; obtain ⟨r0_11, g23, h⟩ := h
    refine chunkT 6 (tab_cons (w_m_post_Close g23) (tab_nil _)) ?_
    refine lastT (tab_nil _) (seqN (Wp.seq (Wp.reg ?_)))
    replace h := bndS h; obtain ⟨r0_12, g24, h⟩ := h
    refine chunkT 6 (tab_cons (w_m_ref22_Close g24) (tab_nil _)) ?_
    refine lastT (tab_nil _) (seqN (Wp.seq ?_))
    replace h := ifS h; rcases h with ⟨g25, h⟩ | ⟨g25, h⟩
    · replace h := bndS h; obtain ⟨r0_13, g26, h⟩ := h
      replace h := ifS h; rcases h with ⟨g27, h⟩ | ⟨g27, h⟩
      · replace h := bndS h; obtain ⟨r0_14, g28, h⟩ := h
        replace h := bndS h; obtain ⟨r0_15, g29, h⟩ := h
        replace h := bndS h; obtain ⟨r0_16, g30, h⟩ := h
        replace h := ifS h; rcases h with ⟨g31, h⟩ | ⟨g31, h⟩
        · replace h := bndS h; obtain ⟨r0_17, g32, h⟩ := h
          replace h := retS h; subst h
          refine drawP [] mixed (clsC 6 (tab_cons (w_m_ref22_Same g26) (tab_nil _)) (clsC 12 (tab_cons (w_m_post_Expire g28) (tab_nil _)) (clsC 16 (tab_cons (w_m_ref22_Expire g29) (tab_nil _)) (clsC 17 (tab_cons (w_m_ref22_Same g30) (tab_nil _)) (clsC 20 (tab_cons (w_m_law22_works g32) (tab_nil _)) (clsN _)))))) ?_
          refine seqN (Wp.ret ?_)
          exact finP
        · replace h := retS h; subst h
          refine drawP [] mixed (clsC 6 (tab_cons (w_m_ref22_Same g26) (tab_nil _)) (clsC 12 (tab_cons (w_m_post_Expire g28) (tab_nil _)) (clsC 16 (tab_cons (w_m_ref22_Expire g29) (tab_nil _)) (clsC 17 (tab_cons (w_m_ref22_Same g30) (tab_nil _)) (clsN _))))) (seqN (Wp.ret ?_))
          exact finP
      · replace h := retS h; subst h
        refine drawP [] mixed (clsC 6 (tab_cons (w_m_ref22_Same g26) (tab_nil _)) (clsN _)) (seqN (Wp.ret ?_))
        exact finP
    · replace h := retS h; subst h
      refine drawP [] mixed (clsN _) (seqN (Wp.ret ?_))
      exact finP
theorem w_m_law22_PostDoes_k2 {r0_2 r0_3 : (TPost × Int × (List THit) × Int)} {p : TPost} {o : TOp} {v90 : Bool} {r : Bool}   (h : m_law22_PostDoes_k2 p o v90 = some r) : Wp Pg 162 0 (.cond (.t 90) (.seq (.reg none i4_R6) .ret) .skip) ⟨[(0, .bad), (1, .bad), (2, .ptr 0 0), (3, .ptr 1 0), (4, .bad), (5, .ptr 2 0), (6, .bad), (7, .bad), (8, .bad), (9, .ptr 3 0), (10, .bad), (11, .bad), (12, .bad), (35, .bad), (90, .bool v90), (121, .bad)], [], (hs3 o p.Next p.Mails p.Subs r0_2.1.Next r0_2.1.Mails r0_2.1.Subs r0_3.1.Next r0_3.1.Mails r0_3.1.Subs), 4⟩ (seqQ Pg 162 0 (.seq (.reg (some [(0, 2)]) i4_R7) (.seq (.reg (some [(0, 2)]) i4_R8) (.seq (.seq (.reg none i4_R9) (.cond (.t 121) (.seq (.reg none i4_R10) .ret) .skip)) (.seq (.reg none i4_R11) (.seq (.reg none i4_R12) (.seq (.reg (some [(12, 13), (12, 15)]) i4_R13) .ret)))))) (qf_4 r)) := by
  unfold m_law22_PostDoes_k2 at h
  replace h := ifS h; rcases h with ⟨g14, h⟩ | ⟨g14, h⟩
  · replace h := retS h; subst h
    refine condTP (Wp.seq ?_)
    refine regP (seqN (Wp.ret (seqR ?_)))
    exact finP
  · refine condFP (Wp.skip (seqN (Wp.seq ?_)))
    replace h := bndS h; obtain ⟨r0_6, g15, h⟩ := h
    replace h := bndS h; obtain ⟨r0_7, g16, h⟩ := h
    refine drawP [] mixed (clsC 2 (tab_cons (w_m_law22_Op_Sub g15) (tab_nil _)) (clsC 3 (tab_cons (w_m_post_Open g16) (tab_nil _)) (clsN _))) (seqN (Wp.seq ?_))
    replace h := bndS h; obtain ⟨r0_8, g17, h⟩ := h
    refine drawP [] mixed (clsC 2 (tab_cons (w_m_law22_Op_Sub g15) (tab_nil _)) (clsC 3 (tab_cons (w_m_ref22_Open g17) (tab_nil _)) (clsN _))) (seqN (Wp.seq (Wp.seq (Wp.reg ?_))))
    replace h := ifS h; rcases h with ⟨g18, h⟩ | ⟨g18, h⟩
    · refine lastT (tab_nil _) (seqN ?_)
      exact jumpK [.kill [7, 8, 11, 12, 90], .tidy] (w_m_law22_PostDoes_k3 (r0_7 := r0_7) (r0_8 := r0_8) h)
    · replace h := bndS h; obtain ⟨r0_9, g19, h⟩ := h
      refine chunkT 7 (tab_cons (w_m_ref22_Hits g19) (tab_nil _)) ?_
      replace h := ifS h; rcases h with ⟨g20, h⟩ | ⟨g20, h⟩
      · replace h := bndS h; obtain ⟨r0_10, g21, h⟩ := h
        refine chunkT 6 (tab_cons (w_m_ref22_Same g21) (tab_nil _)) ?_
        refine lastT (tab_nil _) (seqN ?_)
        exact jumpK [.kill [7, 8, 11, 12, 90], .tidy] (w_m_law22_PostDoes_k3 (r0_7 := r0_7) (r0_8 := r0_8) h)
      · refine lastT (tab_nil _) (seqN ?_)
        exact jumpK [.kill [7, 8, 11, 12, 90], .tidy] (w_m_law22_PostDoes_k3 (r0_7 := r0_7) (r0_8 := r0_8) h)
theorem w_m_law22_PostDoes_k1 {p : TPost} {o : TOp} {v35 : Bool} {r : Bool}   (h : m_law22_PostDoes_k1 p o v35 = some r) : Wp Pg 162 0 (.cond (.t 35) (.seq (.reg none i4_R2) .ret) .skip) ⟨[(0, .bad), (1, .bad), (2, .ptr 0 0), (3, .ptr 1 0), (4, .bad), (5, .bad), (6, .bad), (7, .bad), (8, .bad), (9, .bad), (10, .bad), (11, .bad), (12, .bad), (35, .bool v35), (90, .bad), (121, .bad)], [], (hs1 o p.Next p.Mails p.Subs), 2⟩ (seqQ Pg 162 0 (.seq (.reg none i4_R3) (.seq (.reg none i4_R4) (.seq (.seq (.reg none i4_R5) (.cond (.t 90) (.seq (.reg none i4_R6) .ret) .skip)) (.seq (.reg (some [(0, 2)]) i4_R7) (.seq (.reg (some [(0, 2)]) i4_R8) (.seq (.seq (.reg none i4_R9) (.cond (.t 121) (.seq (.reg none i4_R10) .ret) .skip)) (.seq (.reg none i4_R11) (.seq (.reg none i4_R12) (.seq (.reg (some [(12, 13), (12, 15)]) i4_R13) .ret))))))))) (qf_4 r)) := by
  unfold m_law22_PostDoes_k1 at h
  replace h := ifS h; rcases h with ⟨g5, h⟩ | ⟨g5, h⟩
  · refine condTP (Wp.seq (Wp.reg ?_))
    replace h := bndS h; obtain ⟨r0_1, g6, h⟩ := h
    replace h := retS h; subst h
    refine chunkT 1 (tab_cons (w_m_law22_works g6) (tab_nil _)) ?_
    refine lastT (tab_nil _) (seqN (Wp.ret (seqR ?_)))
    exact finP
  · refine condFP (Wp.skip (seqN (Wp.seq (Wp.reg ?_))))
    replace h := bndS h; obtain ⟨r0_2, g7, h⟩ := h
    refine chunkT 12 (tab_cons (w_m_post_Publish g7) (tab_nil _)) ?_
    refine lastT (tab_nil _) (seqN (Wp.seq (Wp.reg ?_)))
    replace h := bndS h; obtain ⟨r0_3, g8, h⟩ := h
    refine chunkT 12 (tab_cons (w_m_ref22_Publish g8) (tab_nil _)) ?_
    refine lastT (tab_nil _) (seqN (Wp.seq (Wp.seq (Wp.reg ?_))))
    replace h := ifS h; rcases h with ⟨g9, h⟩ | ⟨g9, h⟩
    · refine lastT (tab_nil _) (seqN ?_)
      exact jumpK [.kill [6, 7, 8, 10, 11, 12, 35], .tidy] (w_m_law22_PostDoes_k2 (r0_2 := r0_2) (r0_3 := r0_3) h)
    · replace h := ifS h; rcases h with ⟨g10, h⟩ | ⟨g10, h⟩
      · refine lastT (tab_nil _) (seqN ?_)
        exact jumpK [.kill [6, 7, 8, 10, 11, 12, 35], .tidy] (w_m_law22_PostDoes_k2 (r0_2 := r0_2) (r0_3 := r0_3) h)
      · replace h := bndS h; obtain ⟨r0_4, g11, h⟩ := h
        refine chunkT 12 (tab_cons (w_m_ref22_Hits g11) (tab_nil _)) ?_
        replace h := ifS h; rcases h with ⟨g12, h⟩ | ⟨g12, h⟩
        · replace h := bndS h; obtain ⟨r0_5, g13, h⟩ := h
          refine chunkT 6 (tab_cons (w_m_ref22_Same g13) (tab_nil _)) ?_
          refine lastT (tab_nil _) (seqN ?_)
          exact jumpK [.kill [6, 7, 8, 10, 11, 12, 35], .tidy] (w_m_law22_PostDoes_k2 (r0_2 := r0_2) (r0_3 := r0_3) h)
        · refine lastT (tab_nil _) (seqN ?_)
          exact jumpK [.kill [6, 7, 8, 10, 11, 12, 35], .tidy] (w_m_law22_PostDoes_k2 (r0_2 := r0_2) (r0_3 := r0_3) h)
theorem w_m_law22_PostDoes {p : TPost} {o : TOp} {r : Bool}   (h : m_law22_PostDoes p o = some r) : Spec Pg 4 [.agg [.int .i64 p.Next, sl TMail.c p.Mails, sl TSub.c p.Subs], .agg [.int .i64 o.Kind, .str o.Name, .int .i64 o.Key, sl cs o.Vars.Names, sl (ci .i64) o.Vars.Vals, .int .i64 o.Now, .int .i64 o.Keep, .int .i64 o.Part, .int .i64 o.Id, .int .i64 o.Inst]] [] 0 (.bool r) [] 0 := by
  refine Spec.intro Try.func4 i4_ok (le_of_ble rfl) ?_
  show Wp Pg 162 0 i4_B ⟨argEnv _ i4_V, [], _, _⟩ (qf_4 r)
  unfold m_law22_PostDoes at h
  unfold i4_B
  refine weakP [] ?_
  refine Wp.seq (regP (seqN (Wp.seq (Wp.seq (Wp.reg ?_)))))
  replace h := bndS h; obtain ⟨r0, g1, h⟩ := h
  refine chunkT 2 (tab_cons (w_m_law22_may g1) (tab_nil _)) ?_
  replace h := ifS h; rcases h with ⟨g2, h⟩ | ⟨g2, h⟩
  · replace h := ifS h; rcases h with ⟨g3, h⟩ | ⟨g3, h⟩
    · refine lastT (tab_nil _) (seqN ?_)
      exact jumpK [.kill [0, 1, 4, 5, 6, 7, 8, 9, 10, 11, 12, 90, 121], .tidy] (w_m_law22_PostDoes_k1 h)
    · replace h := ifS h; rcases h with ⟨g4, h⟩ | ⟨g4, h⟩
      · refine lastT (tab_nil _) (seqN ?_)
        exact jumpK [.kill [0, 1, 4, 5, 6, 7, 8, 9, 10, 11, 12, 90, 121], .tidy] (w_m_law22_PostDoes_k1 h)
      · refine lastT (tab_nil _) (seqN ?_)
        exact jumpK [.kill [0, 1, 4, 5, 6, 7, 8, 9, 10, 11, 12, 90, 121], .tidy] (w_m_law22_PostDoes_k1 h)
  · refine lastT (tab_nil _) (seqN ?_)
    exact jumpK [.kill [0, 1, 4, 5, 6, 7, 8, 9, 10, 11, 12, 90, 121], .tidy] (w_m_law22_PostDoes_k1 h)
end Go.Proofs.Ytefjblgmnoheiaa.R

