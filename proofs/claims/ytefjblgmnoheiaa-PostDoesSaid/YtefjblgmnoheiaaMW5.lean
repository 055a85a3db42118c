/- The program's functions answer what the models answer: 5. -/
import Derived.Test.YtefjblgmnoheiaaMW0
import Derived.Test.YtefjblgmnoheiaaMW1
import Derived.Test.YtefjblgmnoheiaaMW2
import Derived.Test.YtefjblgmnoheiaaMW3
import Derived.Test.YtefjblgmnoheiaaMW4
set_option maxRecDepth 100000
set_option maxHeartbeats 1600000
set_option linter.unusedVariables false
set_option linter.unusedSimpArgs false
set_option linter.defProp false
noncomputable section
namespace Go.Proofs.Ytefjblgmnoheiaa.R
open Go Nat
/-! funicular/funicularref22.Publish -/
noncomputable abbrev qf_17 (r : (TPost × Int × (List THit) × Int)) : Ex → St → Prop := FinQ 0 [.cell 12 true 3, .tmp 13, .tmp 14, .tmp 15] (.tup [.agg [.int .i64 r.1.Next, sl TMail.c r.1.Mails, sl TSub.c r.1.Subs], .int .i64 r.2.1, sl THit.c r.2.2.1, .int .i64 r.2.2.2]) [] 0
noncomputable abbrev H_m_ref22_Publish_l1 (p : TPost) (keep : Int) (rec0 : Int → Int → ByteArray → Int → (List ByteArray) → (List Int) → Int → (List TWho) → (List TSub) → (List THit) → Option (TPost × Int × (List THit) × Int)) (r : (TPost × Int × (List THit) × Int)) : Prop := ∀ {i m_00 : Int} {m_10 : ByteArray} {m_20 : Int} {m_30 : (List ByteArray)} {m_40 : (List Int)} {m_50 : Int} {m_60 : (List TWho)} {out_2 : (List TSub)} {hits : (List THit)}, rec0 i m_00 m_10 m_20 m_30 m_40 m_50 m_60 out_2 hits = some r → LWp Pg 124 0 i17_L0 ⟨[(0, .bad), (1, .bad), (2, .bad), (3, .bad), (4, .bad), (5, .int .i64 keep), (6, .ptr 0 0), (9, .bad), (12, .ptr 1 0), (13, .bad), (14, .bad), (15, .bad), (16, .bad), (17, .ptr 2 0), (18, .ptr 3 0), (19, .own 5 5 0 hits.length false), (20, .int .i64 i), (21, .bad), (24, .bad), (38, .bad), (43, .bad), (58, .bad), (77, .bad), (87, .bad), (113, .bad)], [], (hp29 p.Next p.Mails p.Subs (0 : Int) m_00 m_10 m_20 m_30 m_40 m_50 m_60 (IntKind.i64.wrap (p.Next + (1 : Int))) out_2 hits), 6⟩ (blockQ 0 (seqQ Pg 124 0 (.seq (.reg none i17_R22) (.seq (.seq (.reg none i17_R23) (.cond (.t 113) (.reg none i17_R24) .skip)) (.seq (.reg (some [(2, 4)]) i17_R25) .ret))) (qf_17 r)))
theorem w_m_ref22_Publish_k5 {p : TPost} {out_2_1 : (List TSub)} {hits_2 : (List THit)} {out_1 : (List TMail)} {r : (TPost × Int × (List THit) × Int)}   (h : m_ref22_Publish_k5 p out_2_1 hits_2 out_1 = some r) : Wp Pg 124 0 (.seq (.reg (some [(2, 4)]) i17_R25) .ret) ⟨[(0, .bad), (1, .bad), (2, .bad), (3, .bad), (4, .bad), (5, .bad), (6, .ptr 0 0), (9, .bad), (12, .ptr 1 0), (13, .bad), (14, .bad), (15, .bad), (16, .bad), (17, .bad), (18, .ptr 2 0), (19, .own 5 5 0 hits_2.length false), (20, .bad), (21, .bad), (24, .bad), (38, .bad), (43, .bad), (58, .bad), (77, .bad), (87, .bad), (113, .bad)], [], [(0, .box [.int .i64 p.Next, sl TMail.c p.Mails, sl TSub.c p.Subs]), (1, .box [.int .i64 (0 : Int), .nil, .nil]), (2, .box [.int .i64 (IntKind.i64.wrap (p.Next + (1 : Int))), .own 7 3 0 out_1.length false, .own 6 4 0 out_2_1.length false]), (3, .arr 7 (List.map TMail.c out_1) 0), (4, .arr 6 (List.map TSub.c out_2_1) 0), (5, .arr 5 (List.map THit.c hits_2) 0)], 6⟩ (qf_17 r) := by
  unfold m_ref22_Publish_k5 at h
  replace h := retS h; subst h
  refine Wp.seq (drawP [] mixed (clsN _) (seqN ?_))
  refine weakP [.cell 12 1 .frz, .cell 12 2 .frz, .at 14 .frz] (Wp.ret ?_)
  exact finP
theorem w_m_ref22_Publish_k4 {p : TPost} {keep m_00_2 : Int} {m_10_2 : ByteArray} {m_20_2 : Int} {m_30_2 : (List ByteArray)} {m_40_2 : (List Int)} {m_50_2 : Int} {m_60_2 : (List TWho)} {out_2_1 : (List TSub)} {hits_2 : (List THit)} {r : (TPost × Int × (List THit) × Int)}   (h : m_ref22_Publish_k4 p keep m_00_2 m_10_2 m_20_2 m_30_2 m_40_2 m_50_2 m_60_2 out_2_1 hits_2 = some r) : Wp Pg 124 0 (.seq (.reg none i17_R22) (.seq (.seq (.reg none i17_R23) (.cond (.t 113) (.reg none i17_R24) .skip)) (.seq (.reg (some [(2, 4)]) i17_R25) .ret))) ⟨[(0, .bad), (1, .bad), (2, .bad), (3, .bad), (4, .bad), (5, .int .i64 keep), (6, .ptr 0 0), (9, .bad), (12, .ptr 1 0), (13, .bad), (14, .bad), (15, .bad), (16, .bad), (17, .ptr 2 0), (18, .ptr 3 0), (19, .own 5 5 0 hits_2.length false), (20, .bad), (21, .bad), (24, .bad), (38, .bad), (43, .bad), (58, .bad), (77, .bad), (87, .bad), (113, .bad)], [], (hp29 p.Next p.Mails p.Subs (0 : Int) m_00_2 m_10_2 m_20_2 m_30_2 m_40_2 m_50_2 m_60_2 (IntKind.i64.wrap (p.Next + (1 : Int))) out_2_1 hits_2), 6⟩ (qf_17 r) := by
  unfold m_ref22_Publish_k4 at h
  refine Wp.seq ?_
  replace h := reqS h; obtain ⟨g20, h⟩ := h
  refine regP (seqN (Wp.seq (Wp.seq ?_)))
  refine regP (seqN ?_)
  replace h := ifS h; rcases h with ⟨g21, h⟩ | ⟨g21, h⟩
  · refine condTP ?_
    replace h := reqS h; obtain ⟨g22, h⟩ := h
    refine regP (seqN ?_)
    exact jumpK [.kill [5, 17, 113], .tidy] (w_m_ref22_Publish_k5 h)
  · refine condFP (Wp.skip (seqN ?_))
    exact jumpK [.kill [5, 17, 113], .tidy] (w_m_ref22_Publish_k5 h)
theorem w_m_ref22_Publish_k3 {p : TPost} {keep i : Int} {out_2 : (List TSub)} {e : TSub} {m_00_1 : Int} {m_10_1 : ByteArray} {m_20_1 : Int} {m_30_1 : (List ByteArray)} {m_40_1 : (List Int)} {m_50_1 : Int} {m_60_1 : (List TWho)} {hits_1 : (List THit)} {s_5 : Int} {r : (TPost × Int × (List THit) × Int)} {rec_m_ref22_Publish_l1 : Int → Int → ByteArray → Int → (List ByteArray) → (List Int) → Int → (List TWho) → (List TSub) → (List THit) → Option (TPost × Int × (List THit) × Int)} (hrec_m_ref22_Publish_l1 : H_m_ref22_Publish_l1 p keep rec_m_ref22_Publish_l1 r) (h : m_ref22_Publish_k3 rec_m_ref22_Publish_l1 i out_2 e m_00_1 m_10_1 m_20_1 m_30_1 m_40_1 m_50_1 m_60_1 hits_1 s_5 = some r) : Wp Pg 124 0 (.reg none i17_R20) ⟨[(0, .bad), (1, .bad), (2, .bad), (3, .bad), (4, .bad), (5, .int .i64 keep), (6, .ptr 0 0), (9, .bad), (12, .ptr 1 0), (13, .bad), (14, .bad), (15, .bad), (16, .bad), (17, .ptr 2 0), (18, .ptr 3 0), (19, .own 5 5 0 hits_1.length false), (20, .int .i64 i), (21, .ptr 6 0), (24, .bad), (38, .bad), (43, .bad), (58, .bad), (77, .bad), (87, .bad), (113, .bad)], [], (hs67 e p.Next p.Mails p.Subs (0 : Int) m_00_1 m_10_1 m_20_1 m_30_1 m_40_1 m_50_1 m_60_1 (IntKind.i64.wrap (p.Next + (1 : Int))) out_2 s_5 hits_1), 7⟩ (blockQ 1 (seqQ Pg 124 0 (.reg none i17_R21) (loopQ Pg 124 0 i17_L0 (blockQ 0 (seqQ Pg 124 0 (.seq (.reg none i17_R22) (.seq (.seq (.reg none i17_R23) (.cond (.t 113) (.reg none i17_R24) .skip)) (.seq (.reg (some [(2, 4)]) i17_R25) .ret))) (qf_17 r)))))) := by
  unfold m_ref22_Publish_k3 at h
  replace h := reqS h; obtain ⟨g19, h⟩ := h
  refine regP (blockN (seqN ?_))
  refine regP (loopN ?_)
  exact jumpL [.kill [21], .tidy] (hrec_m_ref22_Publish_l1 h)
theorem w_m_ref22_Publish_l1_B {p : TPost} {keep : Int} {r : (TPost × Int × (List THit) × Int)}   {rec_m_ref22_Publish_l1 : Int → Int → ByteArray → Int → (List ByteArray) → (List Int) → Int → (List TWho) → (List TSub) → (List THit) → Option (TPost × Int × (List THit) × Int)} (hrec_m_ref22_Publish_l1 : H_m_ref22_Publish_l1 p keep rec_m_ref22_Publish_l1 r) {i m_00 : Int} {m_10 : ByteArray} {m_20 : Int} {m_30 : (List ByteArray)} {m_40 : (List Int)} {m_50 : Int} {m_60 : (List TWho)} {out_2 : (List TSub)} {hits : (List THit)} (h : m_ref22_Publish_l1_B  p keep rec_m_ref22_Publish_l1 i m_00 m_10 m_20 m_30 m_40 m_50 m_60 out_2 hits = some r) : LWp Pg 124 0 i17_L0 ⟨[(0, .bad), (1, .bad), (2, .bad), (3, .bad), (4, .bad), (5, .int .i64 keep), (6, .ptr 0 0), (9, .bad), (12, .ptr 1 0), (13, .bad), (14, .bad), (15, .bad), (16, .bad), (17, .ptr 2 0), (18, .ptr 3 0), (19, .own 5 5 0 hits.length false), (20, .int .i64 i), (21, .bad), (24, .bad), (38, .bad), (43, .bad), (58, .bad), (77, .bad), (87, .bad), (113, .bad)], [], (hp29 p.Next p.Mails p.Subs (0 : Int) m_00 m_10 m_20 m_30 m_40 m_50 m_60 (IntKind.i64.wrap (p.Next + (1 : Int))) out_2 hits), 6⟩ (blockQ 0 (seqQ Pg 124 0 (.seq (.reg none i17_R22) (.seq (.seq (.reg none i17_R23) (.cond (.t 113) (.reg none i17_R24) .skip)) (.seq (.reg (some [(2, 4)]) i17_R25) .ret))) (qf_17 r))) := by
  unfold m_ref22_Publish_l1_B at h
  refine LWp.stepC i17_L0.eq_1 ?_
  refine Wp.seq (Wp.seq (regP (seqN ?_)))
  replace h := ifS h; rcases h with ⟨g12, h⟩ | ⟨g12, h⟩
  · refine condTP (Wp.skip (seqN (Wp.seq (Wp.block (Wp.seq ?_)))))
    replace h := bndS h; obtain ⟨e, g13, h⟩ := h
    refine regP (seqN (Wp.seq (Wp.seq (Wp.reg ?_))))
    replace h := bndS h; obtain ⟨r0_3, g14, h⟩ := h
    refine lastT (tab_cons (w_m_ref22_suits g14) (tab_nil _)) (seqN ?_)
    replace h := ifS h; rcases h with ⟨g15, h⟩ | ⟨g15, h⟩
    · refine condTP (Wp.seq (Wp.reg ?_))
      replace h := bndS h; obtain ⟨r0_4, g16, h⟩ := h
      refine chunkT 4 (tab_cons (w_m_ref22_hit g16) (tab_nil _)) ?_
      replace h := reqS h; obtain ⟨g17, h⟩ := h
      refine lastT (tab_nil _) (seqN (Wp.seq (Wp.reg ?_)))
      replace h := bndS h; obtain ⟨r0_5, g18, h⟩ := h
      refine chunkT 3 (tab_cons (w_m_ref22_and g18) (tab_nil _)) ?_
      refine lastT (tab_nil _) (seqN ?_)
      refine regP (seqN ?_)
      exact jumpK [.kill [77, 87], .tidy] (w_m_ref22_Publish_k3 (p := p) (keep := keep) hrec_m_ref22_Publish_l1 h)
    · refine condFP (Wp.skip (seqN ?_))
      exact jumpK [.kill [77, 87], .tidy] (w_m_ref22_Publish_k3 (p := p) (keep := keep) hrec_m_ref22_Publish_l1 h)
  · refine condFP (Wp.out (seqO (loopO (blockO (seqN ?_)))))
    exact jumpK [.kill [20, 77]] (w_m_ref22_Publish_k4 h)
theorem w_m_ref22_Publish_l1 {p : TPost} {keep : Int} {r : (TPost × Int × (List THit) × Int)}   : ∀ (n : Nat), H_m_ref22_Publish_l1 p keep (m_ref22_Publish_l1  p keep n) r := by
  intro n
  induction n with
  | zero => intro i m_00 m_10 m_20 m_30 m_40 m_50 m_60 out_2 hits h; unfold m_ref22_Publish_l1 at h; cases h
  | succ n ih => intro i m_00 m_10 m_20 m_30 m_40 m_50 m_60 out_2 hits h; unfold m_ref22_Publish_l1 at h; exact w_m_ref22_Publish_l1_B  ih h
theorem w_m_ref22_Publish_k2 {p : TPost} {name : ByteArray} {key : Int} {v : TVars} {now keep : Int} {v58 : Bool} {r : (TPost × Int × (List THit) × Int)}   (h : m_ref22_Publish_k2 p name key v now keep v58 = some r) : Wp Pg 124 0 (.cond (.t 58) (.seq (.reg none i17_R9) .ret) .skip) ⟨[(0, .bad), (1, .str name), (2, .int .i64 key), (3, .bad), (4, .int .i64 now), (5, .int .i64 keep), (6, .ptr 0 0), (9, .ptr 1 0), (12, .ptr 2 0), (13, .bad), (14, .bad), (15, .bad), (16, .bad), (17, .bad), (18, .bad), (19, .bad), (20, .bad), (21, .bad), (24, .bad), (38, .bad), (43, .bad), (58, .bool v58), (77, .bad), (87, .bad), (113, .bad)], [], [(0, .box [.int .i64 p.Next, sl TMail.c p.Mails, sl TSub.c p.Subs]), (1, .box [sl cs v.Names, sl (ci .i64) v.Vals]), (2, .box [.int .i64 (0 : Int), .nil, .nil])], 3⟩ (seqQ Pg 124 0 (.seq (.reg none i17_R10) (.seq (.reg none i17_R11) (.seq (.reg none i17_R12) (.seq (.seq (.reg none i17_R13) (.block 0 (.loop i17_L0))) (.seq (.reg none i17_R22) (.seq (.seq (.reg none i17_R23) (.cond (.t 113) (.reg none i17_R24) .skip)) (.seq (.reg (some [(2, 4)]) i17_R25) .ret))))))) (qf_17 r)) := by
  unfold m_ref22_Publish_k2 at h
  replace h := ifS h; rcases h with ⟨g11, h⟩ | ⟨g11, h⟩
  · replace h := retS h; subst h
    refine condTP (Wp.seq ?_)
    refine regP (seqN ?_)
    refine weakP [.cell 12 1 .frz, .cell 12 2 .frz, .at 14 .frz] (Wp.ret (seqR ?_))
    exact finP
  · refine condFP (Wp.skip (seqN (Wp.seq ?_)))
    refine regP (seqN (Wp.seq ?_))
    refine regP (seqN (Wp.seq ?_))
    refine regP (seqN (Wp.seq (Wp.seq ?_)))
    refine regP (seqN (Wp.block (Wp.loop ?_)))
    exact jumpL [.kill [1, 2, 4, 9, 58], .at 19 (.virt 5), .cell 17 6 .frz, .cell 18 2 (.virt 6), .tidy] (w_m_ref22_Publish_l1 _ h)
theorem w_m_ref22_Publish_k1 {p : TPost} {name : ByteArray} {key : Int} {v : TVars} {now keep : Int} {v38 : Bool} {r : (TPost × Int × (List THit) × Int)}   (h : m_ref22_Publish_k1 p name key v now keep v38 = some r) : Wp Pg 124 0 (.cond (.t 38) (.seq (.reg none i17_R4) .ret) .skip) ⟨[(0, .bad), (1, .str name), (2, .int .i64 key), (3, .bad), (4, .int .i64 now), (5, .int .i64 keep), (6, .ptr 0 0), (9, .ptr 1 0), (12, .ptr 2 0), (13, .bad), (14, .bad), (15, .bad), (16, .bad), (17, .bad), (18, .bad), (19, .bad), (20, .bad), (21, .bad), (24, .bad), (38, .bool v38), (43, .bad), (58, .bad), (77, .bad), (87, .bad), (113, .bad)], [], [(0, .box [.int .i64 p.Next, sl TMail.c p.Mails, sl TSub.c p.Subs]), (1, .box [sl cs v.Names, sl (ci .i64) v.Vals]), (2, .box [.int .i64 (0 : Int), .nil, .nil])], 3⟩ (seqQ Pg 124 0 (.seq (.seq (.reg none i17_R5) (.seq (.reg none i17_R6) (.cond (.t 43) (.seq (.reg none i17_R7) .ret) .skip))) (.seq (.seq (.reg none i17_R8) (.cond (.t 58) (.seq (.reg none i17_R9) .ret) .skip)) (.seq (.reg none i17_R10) (.seq (.reg none i17_R11) (.seq (.reg none i17_R12) (.seq (.seq (.reg none i17_R13) (.block 0 (.loop i17_L0))) (.seq (.reg none i17_R22) (.seq (.seq (.reg none i17_R23) (.cond (.t 113) (.reg none i17_R24) .skip)) (.seq (.reg (some [(2, 4)]) i17_R25) .ret))))))))) (qf_17 r)) := by
  unfold m_ref22_Publish_k1 at h
  replace h := ifS h; rcases h with ⟨g6, h⟩ | ⟨g6, h⟩
  · replace h := retS h; subst h
    refine condTP (Wp.seq ?_)
    refine regP (seqN ?_)
    refine weakP [.cell 12 1 .frz, .cell 12 2 .frz, .at 14 .frz] (Wp.ret (seqR ?_))
    exact finP
  · refine condFP (Wp.skip (seqN (Wp.seq (Wp.seq (Wp.reg ?_)))))
    replace h := bndS h; obtain ⟨r0_2, g7, h⟩ := h
    refine chunkT 2 (tab_cons (w_m_ref09_Check g7) (tab_nil _)) ?_
    refine lastT (tab_nil _) (seqN (Wp.seq ?_))
    refine regP (seqN ?_)
    replace h := ifS h; rcases h with ⟨g8, h⟩ | ⟨g8, h⟩
    · replace h := retS h; subst h
      refine condTP (Wp.seq ?_)
      refine regP (seqN ?_)
      refine weakP [.cell 12 1 .frz, .cell 12 2 .frz, .at 14 .frz] (Wp.ret (seqR ?_))
      exact finP
    · refine condFP (Wp.skip (seqN (Wp.seq (Wp.seq ?_))))
      replace h := ifS h; rcases h with ⟨g9, h⟩ | ⟨g9, h⟩
      · refine regP (seqN ?_)
        exact jumpK [.kill [16, 38, 43]] (w_m_ref22_Publish_k2 h)
      · replace h := ifS h; rcases h with ⟨g10, h⟩ | ⟨g10, h⟩
        · refine regP (seqN ?_)
          exact jumpK [.kill [16, 38, 43]] (w_m_ref22_Publish_k2 h)
        · refine regP (seqN ?_)
          exact jumpK [.kill [16, 38, 43]] (w_m_ref22_Publish_k2 h)
theorem w_m_ref22_Publish {p : TPost} {name : ByteArray} {key : Int} {v : TVars} {now : Int} {keep : Int} {r : (TPost × Int × (List THit) × Int)}   (h : m_ref22_Publish p name key v now keep = some r) : Spec Pg 17 [.agg [.int .i64 p.Next, sl TMail.c p.Mails, sl TSub.c p.Subs], .str name, .int .i64 key, .agg [sl cs v.Names, sl (ci .i64) v.Vals], .int .i64 now, .int .i64 keep] [] 0 (.tup [.agg [.int .i64 r.1.Next, sl TMail.c r.1.Mails, sl TSub.c r.1.Subs], .int .i64 r.2.1, sl THit.c r.2.2.1, .int .i64 r.2.2.2]) [] 0 := by
  refine Spec.intro Try.func17 i17_ok (le_of_ble rfl) ?_
  show Wp Pg 124 0 i17_B ⟨argEnv _ i17_V, [], _, _⟩ (qf_17 r)
  unfold m_ref22_Publish at h
  unfold i17_B
  refine weakP [] ?_
  refine Wp.seq (regP (seqN (Wp.seq (Wp.seq (Wp.reg ?_)))))
  replace h := bndS h; obtain ⟨r0, g1, h⟩ := h
  refine chunkT 2 (tab_cons (w_m_ref02_Name g1) (tab_nil _)) ?_
  refine lastT (tab_nil _) (seqN ?_)
  replace h := ifS h; rcases h with ⟨g2, h⟩ | ⟨g2, h⟩
  · refine condFP (Wp.skip (seqN (Wp.seq (Wp.seq (Wp.reg ?_)))))
    replace h := bndS h; obtain ⟨r0_1, g3, h⟩ := h
    refine chunkT 2 (tab_cons (w_m_ref22_in g3) (tab_nil _)) ?_
    replace h := ifS h; rcases h with ⟨g4, h⟩ | ⟨g4, h⟩
    · replace h := ifS h; rcases h with ⟨g5, h⟩ | ⟨g5, h⟩
      · refine lastT (tab_nil _) (seqN ?_)
        exact jumpK [.kill [0, 3, 13, 14, 15, 16, 17, 18, 19, 20, 21, 24, 43, 58, 77, 87, 113], .tidy] (w_m_ref22_Publish_k1 h)
      · refine lastT (tab_nil _) (seqN ?_)
        exact jumpK [.kill [0, 3, 13, 14, 15, 16, 17, 18, 19, 20, 21, 24, 43, 58, 77, 87, 113], .tidy] (w_m_ref22_Publish_k1 h)
    · refine lastT (tab_nil _) (seqN ?_)
      exact jumpK [.kill [0, 3, 13, 14, 15, 16, 17, 18, 19, 20, 21, 24, 43, 58, 77, 87, 113], .tidy] (w_m_ref22_Publish_k1 h)
  · replace h := retS h; subst h
    refine condTP (Wp.seq ?_)
    refine regP (seqN ?_)
    refine weakP [.cell 12 1 .frz, .cell 12 2 .frz, .at 14 .frz] (Wp.ret (seqR ?_))
    exact finP
/-! funicular/funicularref22.Hits -/
noncomputable abbrev qf_18 (r : Bool) : Ex → St → Prop := FinQ 0 [.tmp 4] (.bool r) [] 0
noncomputable abbrev H_m_ref22_Hits_l1 (a b : (List THit)) (rec0 : Int → Option Bool) (r : Bool) : Prop := ∀ {i : Int}, rec0 i = some r → LWp Pg 68 0 i18_L0 ⟨[(0, sl THit.c a), (1, sl THit.c b), (4, .bad), (5, .int .i64 i), (10, .bad), (14, .bad), (67, .bad)], [], [], 0⟩ (blockQ 0 (seqQ Pg 68 0 (.seq (.reg none i18_R8) .ret) (qf_18 r)))
theorem w_m_ref22_Hits_k1 {a b : (List THit)} {i : Int} {v67 : Bool} {r : Bool} {rec_m_ref22_Hits_l1 : Int → Option Bool} (hrec_m_ref22_Hits_l1 : H_m_ref22_Hits_l1 a b rec_m_ref22_Hits_l1 r) (h : m_ref22_Hits_k1 rec_m_ref22_Hits_l1 i v67 = some r) : Wp Pg 68 0 (.cond (.t 67) (.seq (.reg none i18_R6) .ret) .skip) ⟨[(0, sl THit.c a), (1, sl THit.c b), (4, .bad), (5, .int .i64 i), (10, .bad), (14, .bad), (67, .bool v67)], [], [], 0⟩ (blockQ 1 (seqQ Pg 68 0 (.reg none i18_R7) (loopQ Pg 68 0 i18_L0 (blockQ 0 (seqQ Pg 68 0 (.seq (.reg none i18_R8) .ret) (qf_18 r)))))) := by
  unfold m_ref22_Hits_k1 at h
  replace h := ifS h; rcases h with ⟨g9, h⟩ | ⟨g9, h⟩
  · replace h := retS h; subst h
    refine condTP (Wp.seq ?_)
    refine regP (seqN (Wp.ret (blockR (seqR (loopR (blockR (seqR ?_)))))))
    exact finP
  · refine condFP (Wp.skip (blockN (seqN ?_)))
    refine regP (loopN ?_)
    exact jumpL [.kill [67]] (hrec_m_ref22_Hits_l1 h)
theorem w_m_ref22_Hits_l1_B {a b : (List THit)} {r : Bool}   {rec_m_ref22_Hits_l1 : Int → Option Bool} (hrec_m_ref22_Hits_l1 : H_m_ref22_Hits_l1 a b rec_m_ref22_Hits_l1 r) {i : Int} (h : m_ref22_Hits_l1_B  a b rec_m_ref22_Hits_l1 i = some r) : LWp Pg 68 0 i18_L0 ⟨[(0, sl THit.c a), (1, sl THit.c b), (4, .bad), (5, .int .i64 i), (10, .bad), (14, .bad), (67, .bad)], [], [], 0⟩ (blockQ 0 (seqQ Pg 68 0 (.seq (.reg none i18_R8) .ret) (qf_18 r))) := by
  unfold m_ref22_Hits_l1_B at h
  refine LWp.stepC i18_L0.eq_1 ?_
  refine Wp.seq (Wp.seq (regP (seqN ?_)))
  replace h := ifS h; rcases h with ⟨g2, h⟩ | ⟨g2, h⟩
  · refine condTP (Wp.skip (seqN (Wp.seq (Wp.block (Wp.seq ?_)))))
    replace h := bndS h; obtain ⟨e, g3, h⟩ := h
    replace h := bndS h; obtain ⟨e_1, g4, h⟩ := h
    replace h := ifS h; rcases h with ⟨g5, h⟩ | ⟨g5, h⟩
    · refine drawP [] mixed (clsN _) (seqN ?_)
      exact jumpK [.kill [14], .tidy] (w_m_ref22_Hits_k1 (a := a) (b := b) hrec_m_ref22_Hits_l1 h)
    · replace h := ifS h; rcases h with ⟨g6, h⟩ | ⟨g6, h⟩
      · refine drawP [] mixed (clsN _) (seqN ?_)
        exact jumpK [.kill [14], .tidy] (w_m_ref22_Hits_k1 (a := a) (b := b) hrec_m_ref22_Hits_l1 h)
      · replace h := ifS h; rcases h with ⟨g7, h⟩ | ⟨g7, h⟩
        · refine drawP [] mixed (clsN _) (seqN ?_)
          exact jumpK [.kill [14], .tidy] (w_m_ref22_Hits_k1 (a := a) (b := b) hrec_m_ref22_Hits_l1 h)
        · replace h := bndS h; obtain ⟨r0, g8, h⟩ := h
          refine drawP [] mixed (clsC 48 (tab_cons (w_m_ref09_Same g8) (tab_nil _)) (clsN _)) (seqN ?_)
          exact jumpK [.kill [14], .tidy] (w_m_ref22_Hits_k1 (a := a) (b := b) hrec_m_ref22_Hits_l1 h)
  · replace h := retS h; subst h
    refine condFP (Wp.out (seqO (loopO (blockO (seqN (Wp.seq ?_))))))
    refine regP (seqN (Wp.ret ?_))
    exact finP
theorem w_m_ref22_Hits_l1 {a b : (List THit)} {r : Bool}   : ∀ (n : Nat), H_m_ref22_Hits_l1 a b (m_ref22_Hits_l1  a b n) r := by
  intro n
  induction n with
  | zero => intro i h; unfold m_ref22_Hits_l1 at h; cases h
  | succ n ih => intro i h; unfold m_ref22_Hits_l1 at h; exact w_m_ref22_Hits_l1_B  ih h
theorem w_m_ref22_Hits {a : (List THit)} {b : (List THit)} {r : Bool}   (h : m_ref22_Hits a b = some r) : Spec Pg 18 [sl THit.c a, sl THit.c b] [] 0 (.bool r) [] 0 := by
  refine Spec.intro Try.func18 i18_ok (le_of_ble rfl) ?_
  show Wp Pg 68 0 i18_B ⟨argEnv _ i18_V, [], _, _⟩ (qf_18 r)
  unfold m_ref22_Hits at h
  unfold i18_B
  refine weakP [] ?_
  refine Wp.seq (regP (seqN (Wp.seq (Wp.seq ?_))))
  refine regP (seqN ?_)
  replace h := ifS h; rcases h with ⟨g1, h⟩ | ⟨g1, h⟩
  · replace h := retS h; subst h
    refine condTP (Wp.seq ?_)
    refine regP (seqN (Wp.ret (seqR ?_)))
    exact finP
  · refine condFP (Wp.skip (seqN (Wp.seq (Wp.seq ?_))))
    refine regP (seqN (Wp.block (Wp.loop ?_)))
    exact jumpL [.kill [4, 10, 14, 67]] (w_m_ref22_Hits_l1 _ h)
/-! funicular/post.wide -/
noncomputable abbrev qf_35 (r : Bool) : Ex → St → Prop := FinQ 0 [.tmp 2] (.bool r) [] 0
theorem w_m_post_wide {n0 : Int} {r : Bool}   (h : m_post_wide n0 = some r) : Spec Pg 35 [.int .i64 n0] [] 0 (.bool r) [] 0 := by
  refine Spec.intro Try.func35 i35_ok (le_of_ble rfl) ?_
  show Wp Pg 9 0 i35_B ⟨argEnv _ i35_V, [], _, _⟩ (qf_35 r)
  unfold m_post_wide at h
  unfold i35_B
  refine weakP [] ?_
  refine Wp.seq (regP (seqN (Wp.seq ?_)))
  replace h := ifS h; rcases h with ⟨g1, h⟩ | ⟨g1, h⟩
  · replace h := retS h; subst h
    refine regP (seqN (Wp.ret ?_))
    exact finP
  · replace h := retS h; subst h
    refine regP (seqN (Wp.ret ?_))
    exact finP
/-! funicular/post.part -/
noncomputable abbrev qf_78 (r : Bool) : Ex → St → Prop := FinQ 0 [.tmp 2] (.bool r) [] 0
theorem w_m_post_part {n0 : Int} {r : Bool}   (h : m_post_part n0 = some r) : Spec Pg 78 [.int .i64 n0] [] 0 (.bool r) [] 0 := by
  refine Spec.intro Try.func78 i78_ok (le_of_ble rfl) ?_
  show Wp Pg 9 0 i78_B ⟨argEnv _ i78_V, [], _, _⟩ (qf_78 r)
  unfold m_post_part at h
  unfold i78_B
  refine weakP [] ?_
  refine Wp.seq (regP (seqN (Wp.seq ?_)))
  replace h := ifS h; rcases h with ⟨g1, h⟩ | ⟨g1, h⟩
  · replace h := retS h; subst h
    refine regP (seqN (Wp.ret ?_))
    exact finP
  · replace h := retS h; subst h
    refine regP (seqN (Wp.ret ?_))
    exact finP
/-! funicular/post.sub -/
noncomputable abbrev qf_37 (r : Bool) : Ex → St → Prop := FinQ 0 [.tmp 2] (.bool r) [] 0
theorem w_m_post_sub {s : TSub} {r : Bool}   (h : m_post_sub s = some r) : Spec Pg 37 [.agg [.int .i64 s.Part, .int .i64 s.Id, .int .i64 s.Inst, .str s.Name, .int .i64 s.Key, .int .i64 s.Mail]] [] 0 (.bool r) [] 0 := by
  refine Spec.intro Try.func37 i37_ok (le_of_ble rfl) ?_
  show Wp Pg 31 0 i37_B ⟨argEnv _ i37_V, [], _, _⟩ (qf_37 r)
  unfold m_post_sub at h
  unfold i37_B
  refine weakP [] ?_
  refine Wp.seq (regP (seqN (Wp.seq (Wp.reg ?_))))
  replace h := bndS h; obtain ⟨r0, g1, h⟩ := h
  refine chunkT 3 (tab_cons (w_m_post_part g1) (tab_nil _)) ?_
  replace h := ifS h; rcases h with ⟨g2, h⟩ | ⟨g2, h⟩
  · replace h := bndS h; obtain ⟨r0_1, g3, h⟩ := h
    refine chunkT 4 (tab_cons (w_m_post_wide g3) (tab_nil _)) ?_
    replace h := ifS h; rcases h with ⟨g4, h⟩ | ⟨g4, h⟩
    · replace h := bndS h; obtain ⟨r0_2, g5, h⟩ := h
      refine chunkT 5 (tab_cons (w_m_post_wide g5) (tab_nil _)) ?_
      replace h := ifS h; rcases h with ⟨g6, h⟩ | ⟨g6, h⟩
      · replace h := bndS h; obtain ⟨r0_3, g7, h⟩ := h
        refine chunkT 5 (tab_cons (w_m_pack_Name g7) (tab_nil _)) ?_
        replace h := ifS h; rcases h with ⟨g8, h⟩ | ⟨g8, h⟩
        · replace h := ifS h; rcases h with ⟨g9, h⟩ | ⟨g9, h⟩
          · replace h := retS h; subst h
            refine lastT (tab_nil _) (seqN (Wp.ret ?_))
            exact finP
          · replace h := retS h; subst h
            refine lastT (tab_nil _) (seqN (Wp.ret ?_))
            exact finP
        · replace h := retS h; subst h
          refine lastT (tab_nil _) (seqN (Wp.ret ?_))
          exact finP
      · replace h := retS h; subst h
        refine lastT (tab_nil _) (seqN (Wp.ret ?_))
        exact finP
    · replace h := retS h; subst h
      refine lastT (tab_nil _) (seqN (Wp.ret ?_))
      exact finP
  · replace h := retS h; subst h
    refine lastT (tab_nil _) (seqN (Wp.ret ?_))
    exact finP
/-! funicular/post.find -/
noncomputable abbrev qf_65 (r : (Int × Bool)) : Ex → St → Prop := FinQ 0 [.tmp 4, .tmp 5] (.tup [.int .i64 r.1, .bool r.2]) [] 0
theorem w_m_post_find {p : TPost} {k : Tkey} {r : (Int × Bool)}   (h : m_post_find p k = some r) : Spec Pg 65 [.agg [.int .i64 p.Next, sl TMail.c p.Mails, sl TSub.c p.Subs], .agg [.int .i64 k.f_part, .int .i64 k.f_id]] [] 0 (.tup [.int .i64 r.1, .bool r.2]) [] 0 := by
  refine Spec.intro Try.func65 i65_ok (le_of_ble rfl) ?_
  show Wp Pg 12 0 i65_B ⟨argEnv _ i65_V, [], _, _⟩ (qf_65 r)
  unfold m_post_find at h
  unfold i65_B
  refine weakP [] ?_
  refine Wp.seq (regP (seqN (Wp.seq (Wp.reg ?_))))
  replace h := bndS h; obtain ⟨r0, g1, h⟩ := h
  replace h := retS h; subst h
  refine chunkF 4 (tab_cons (w_m_slices_BinarySearchFunc_api_Sub_api_Sub_post_key g1) (tab_nil _)) ?_
  refine lastT (tab_nil _) (seqN (Wp.ret ?_))
  exact finP
/-! (funicular/funicularlaw22.Op).Sub -/
noncomputable abbrev qf_20 (r : TSub) : Ex → St → Prop := FinQ 0 [.cell 2 true 6] (.agg [.int .i64 r.Part, .int .i64 r.Id, .int .i64 r.Inst, .str r.Name, .int .i64 r.Key, .int .i64 r.Mail]) [] 0
theorem w_m_law22_Op_Sub {o : TOp} {r : TSub}   (h : m_law22_Op_Sub o = some r) : Spec Pg 20 [.agg [.int .i64 o.Kind, .str o.Name, .int .i64 o.Key, sl cs o.Vars.Names, sl (ci .i64) o.Vars.Vals, .int .i64 o.Now, .int .i64 o.Keep, .int .i64 o.Part, .int .i64 o.Id, .int .i64 o.Inst]] [] 0 (.agg [.int .i64 r.Part, .int .i64 r.Id, .int .i64 r.Inst, .str r.Name, .int .i64 r.Key, .int .i64 r.Mail]) [] 0 := by
  refine Spec.intro Try.func20 i20_ok (le_of_ble rfl) ?_
  show Wp Pg 14 0 i20_B ⟨argEnv _ i20_V, [], _, _⟩ (qf_20 r)
  unfold m_law22_Op_Sub at h
  unfold i20_B
  refine weakP [] ?_
  replace h := retS h; subst h
  refine Wp.seq (regP (seqN (Wp.seq ?_)))
  refine regP (seqN (Wp.ret ?_))
  exact finP
/-! funicular/funicularref22.Find -/
noncomputable abbrev qf_32 (r : Int) : Ex → St → Prop := FinQ 0 [.tmp 6] (.int .i64 r) [] 0
noncomputable abbrev H_m_ref22_Find_l1 (p : TPost) (part id : Int) (rec0 : Int → Option Int) (r : Int) : Prop := ∀ {i : Int}, rec0 i = some r → LWp Pg 34 0 i32_L0 ⟨[(0, .bad), (1, .int .i64 part), (2, .int .i64 id), (3, .ptr 0 0), (6, .bad), (7, .int .i64 i), (12, .bad), (32, .bad)], [], [(0, .box [.int .i64 p.Next, sl TMail.c p.Mails, sl TSub.c p.Subs])], 1⟩ (blockQ 0 (seqQ Pg 34 0 (.seq (.reg none i32_R6) .ret) (qf_32 r)))
theorem w_m_ref22_Find_k1 {p : TPost} {part id i : Int} {v32 : Bool} {r : Int} {rec_m_ref22_Find_l1 : Int → Option Int} (hrec_m_ref22_Find_l1 : H_m_ref22_Find_l1 p part id rec_m_ref22_Find_l1 r) (h : m_ref22_Find_k1 rec_m_ref22_Find_l1 i v32 = some r) : Wp Pg 34 0 (.cond (.t 32) (.seq (.reg none i32_R4) .ret) .skip) ⟨[(0, .bad), (1, .int .i64 part), (2, .int .i64 id), (3, .ptr 0 0), (6, .bad), (7, .int .i64 i), (12, .bad), (32, .bool v32)], [], [(0, .box [.int .i64 p.Next, sl TMail.c p.Mails, sl TSub.c p.Subs])], 1⟩ (blockQ 1 (seqQ Pg 34 0 (.reg none i32_R5) (loopQ Pg 34 0 i32_L0 (blockQ 0 (seqQ Pg 34 0 (.seq (.reg none i32_R6) .ret) (qf_32 r)))))) := by
  unfold m_ref22_Find_k1 at h
  replace h := ifS h; rcases h with ⟨g4, h⟩ | ⟨g4, h⟩
  · replace h := retS h; subst h
    refine condTP (Wp.seq ?_)
    refine regP (seqN (Wp.ret (blockR (seqR (loopR (blockR (seqR ?_)))))))
    exact finP
  · refine condFP (Wp.skip (blockN (seqN ?_)))
    refine regP (loopN ?_)
    exact jumpL [.kill [32]] (hrec_m_ref22_Find_l1 h)
theorem w_m_ref22_Find_l1_B {p : TPost} {part id : Int} {r : Int}   {rec_m_ref22_Find_l1 : Int → Option Int} (hrec_m_ref22_Find_l1 : H_m_ref22_Find_l1 p part id rec_m_ref22_Find_l1 r) {i : Int} (h : m_ref22_Find_l1_B  p part id rec_m_ref22_Find_l1 i = some r) : LWp Pg 34 0 i32_L0 ⟨[(0, .bad), (1, .int .i64 part), (2, .int .i64 id), (3, .ptr 0 0), (6, .bad), (7, .int .i64 i), (12, .bad), (32, .bad)], [], [(0, .box [.int .i64 p.Next, sl TMail.c p.Mails, sl TSub.c p.Subs])], 1⟩ (blockQ 0 (seqQ Pg 34 0 (.seq (.reg none i32_R6) .ret) (qf_32 r))) := by
  unfold m_ref22_Find_l1_B at h
  refine LWp.stepC i32_L0.eq_1 ?_
  refine Wp.seq (Wp.seq (regP (seqN ?_)))
  replace h := ifS h; rcases h with ⟨g1, h⟩ | ⟨g1, h⟩
  · refine condTP (Wp.skip (seqN (Wp.seq (Wp.block (Wp.seq ?_)))))
    replace h := bndS h; obtain ⟨e, g2, h⟩ := h
    replace h := ifS h; rcases h with ⟨g3, h⟩ | ⟨g3, h⟩
    · refine regP (seqN ?_)
      exact jumpK [.kill [12]] (w_m_ref22_Find_k1 (p := p) (part := part) (id := id) hrec_m_ref22_Find_l1 h)
    · refine regP (seqN ?_)
      exact jumpK [.kill [12]] (w_m_ref22_Find_k1 (p := p) (part := part) (id := id) hrec_m_ref22_Find_l1 h)
  · replace h := retS h; subst h
    refine condFP (Wp.out (seqO (loopO (blockO (seqN (Wp.seq ?_))))))
    refine regP (seqN (Wp.ret ?_))
    exact finP
theorem w_m_ref22_Find_l1 {p : TPost} {part id : Int} {r : Int}   : ∀ (n : Nat), H_m_ref22_Find_l1 p part id (m_ref22_Find_l1  p part id n) r := by
  intro n
  induction n with
  | zero => intro i h; unfold m_ref22_Find_l1 at h; cases h
  | succ n ih => intro i h; unfold m_ref22_Find_l1 at h; exact w_m_ref22_Find_l1_B  ih h
theorem w_m_ref22_Find {p : TPost} {part : Int} {id : Int} {r : Int}   (h : m_ref22_Find p part id = some r) : Spec Pg 32 [.agg [.int .i64 p.Next, sl TMail.c p.Mails, sl TSub.c p.Subs], .int .i64 part, .int .i64 id] [] 0 (.int .i64 r) [] 0 := by
  refine Spec.intro Try.func32 i32_ok (le_of_ble rfl) ?_
  show Wp Pg 34 0 i32_B ⟨argEnv _ i32_V, [], _, _⟩ (qf_32 r)
  unfold m_ref22_Find at h
  unfold i32_B
  refine weakP [] ?_
  refine Wp.seq (regP (seqN (Wp.seq (Wp.seq ?_))))
  refine regP (seqN (Wp.block (Wp.loop ?_)))
  exact jumpL [.kill [0, 6, 12, 32]] (w_m_ref22_Find_l1 _ h)
end Go.Proofs.Ytefjblgmnoheiaa.R
