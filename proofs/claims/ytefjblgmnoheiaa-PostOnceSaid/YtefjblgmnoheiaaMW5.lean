/- The program's functions answer what the models answer: 5. -/
import Derived.Test.YtefjblgmnoheiaaMW0
import Derived.Test.YtefjblgmnoheiaaMW1
import Derived.Test.YtefjblgmnoheiaaMW2
import Derived.Test.YtefjblgmnoheiaaMW3
import Derived.Test.YtefjblgmnoheiaaMW4
set_option maxRecDepth 100000
set_option maxHeartbeats 1600000
set_option linter.unusedVariables false
set_option linter.unusedSimpArgs false
set_option linter.defProp false
noncomputable section
namespace Go.Proofs.Ytefjblgmnoheiaa.R
open Go Nat
/-! funicular/post.Publish -/
noncomputable abbrev qf_16 (r : (TPost × Int × (List THit) × Int)) : Ex → St → Prop := FinQ 0 [.cell 12 true 3, .tmp 13, .tmp 14, .tmp 15] (.tup [.agg [.int .i64 r.1.Next, sl TMail.c r.1.Mails, sl TSub.c r.1.Subs], .int .i64 r.2.1, sl THit.c r.2.2.1, .int .i64 r.2.2.2]) [] 0
noncomputable abbrev H_m_post_Publish_l1 (keep : Int) (r0_6 : TPost) (rec0 : Int → (List TSub) → Int → ByteArray → Int → (List ByteArray) → (List Int) → Int → (List TWho) → (List THit) → Option (TPost × Int × (List THit) × Int)) (r : (TPost × Int × (List THit) × Int)) : Prop := ∀ {v105 : Int} {out_2 : (List TSub)} {m_00 : Int} {m_10 : ByteArray} {m_20 : Int} {m_30 : (List ByteArray)} {m_40 : (List Int)} {m_50 : Int} {m_60 : (List TWho)} {hits : (List THit)}, rec0 v105 out_2 m_00 m_10 m_20 m_30 m_40 m_50 m_60 hits = some r → LWp Pg 135 0 i16_L0 ⟨[(0, .bad), (1, .bad), (2, .bad), (3, .bad), (4, .bad), (5, .int .i64 keep), (6, .bad), (9, .bad), (12, .ptr 0 0), (13, .bad), (14, .bad), (15, .bad), (16, .bad), (17, .bad), (18, .ptr 1 0), (19, .ptr 4 0), (20, .own 5 6 0 hits.length false), (21, .bad), (22, .bad), (23, .bad), (33, .bad), (59, .bad), (79, .bad), (104, .int .i64 (((r0_6.Subs).length : Nat) : Int)), (105, .int .i64 v105), (106, .bad), (116, .bad), (124, .bad)], [], (hp13 (0 : Int) (IntKind.i64.wrap (r0_6.Next + (1 : Int))) r0_6.Mails out_2 m_00 m_10 m_20 m_30 m_40 m_50 m_60 hits), 7⟩ (blockQ 1 (seqQ Pg 135 0 (.seq (.seq (.reg none i16_R22) (.cond (.t 124) (.reg none i16_R23) .skip)) (.seq (.reg (some [(2, 4)]) i16_R24) .ret)) (qf_16 r)))
theorem w_m_post_Publish_k4 {m_10_1 : ByteArray} {m_20_1 : Int} {m_30_1 : (List ByteArray)} {m_40_1 : (List Int)} {m_50_1 : Int} {m_60_1 : (List TWho)} {r0_6 : TPost} {out_2_1 : (List TSub)} {m_00_1 : Int} {hits_1 : (List THit)} {out_1 : (List TMail)} {r : (TPost × Int × (List THit) × Int)}   (h : m_post_Publish_k4 r0_6 out_2_1 m_00_1 hits_1 out_1 = some r) : Wp Pg 135 0 (.seq (.reg (some [(2, 4)]) i16_R24) .ret) ⟨[(0, .bad), (1, .bad), (2, .bad), (3, .bad), (4, .bad), (5, .bad), (6, .bad), (9, .bad), (12, .ptr 0 0), (13, .bad), (14, .bad), (15, .bad), (16, .bad), (17, .bad), (18, .ptr 1 0), (19, .ptr 4 0), (20, .own 5 5 0 hits_1.length false), (21, .bad), (22, .bad), (23, .bad), (33, .bad), (59, .bad), (79, .bad), (104, .bad), (105, .bad), (106, .bad), (116, .bad), (124, .bad)], [], (hp18 (0 : Int) (IntKind.i64.wrap (r0_6.Next + (1 : Int))) out_1 out_2_1 m_00_1 m_10_1 m_20_1 m_30_1 m_40_1 m_50_1 m_60_1 hits_1), 6⟩ (qf_16 r) := by
  unfold m_post_Publish_k4 at h
  replace h := retS h; subst h
  refine Wp.seq (drawP [] mixed (clsN _) (seqN ?_))
  refine weakP [.cell 12 1 .frz, .cell 12 2 .frz, .at 14 .frz] (Wp.ret ?_)
  exact finP
theorem w_m_post_Publish_k3 {keep : Int} {r0_6 : TPost} {out_2_1 : (List TSub)} {m_00_1 : Int} {m_10_1 : ByteArray} {m_20_1 : Int} {m_30_1 : (List ByteArray)} {m_40_1 : (List Int)} {m_50_1 : Int} {m_60_1 : (List TWho)} {hits_1 : (List THit)} {r : (TPost × Int × (List THit) × Int)}   (h : m_post_Publish_k3 keep r0_6 out_2_1 m_00_1 m_10_1 m_20_1 m_30_1 m_40_1 m_50_1 m_60_1 hits_1 = some r) : Wp Pg 135 0 (.seq (.seq (.reg none i16_R22) (.cond (.t 124) (.reg none i16_R23) .skip)) (.seq (.reg (some [(2, 4)]) i16_R24) .ret)) ⟨[(0, .bad), (1, .bad), (2, .bad), (3, .bad), (4, .bad), (5, .int .i64 keep), (6, .bad), (9, .bad), (12, .ptr 0 0), (13, .bad), (14, .bad), (15, .bad), (16, .bad), (17, .bad), (18, .ptr 1 0), (19, .ptr 4 0), (20, .own 5 6 0 hits_1.length false), (21, .bad), (22, .bad), (23, .bad), (33, .bad), (59, .bad), (79, .bad), (104, .bad), (105, .bad), (106, .bad), (116, .bad), (124, .bad)], [], (hp13 (0 : Int) (IntKind.i64.wrap (r0_6.Next + (1 : Int))) r0_6.Mails out_2_1 m_00_1 m_10_1 m_20_1 m_30_1 m_40_1 m_50_1 m_60_1 hits_1), 7⟩ (qf_16 r) := by
  unfold m_post_Publish_k3 at h
  refine Wp.seq (Wp.seq (regP (seqN ?_)))
  replace h := ifS h; rcases h with ⟨g25, h⟩ | ⟨g25, h⟩
  · refine condTP ?_
    replace h := reqS h; obtain ⟨g26, h⟩ := h
    refine regP (seqN ?_)
    exact jumpK [.kill [5, 124], .cell 19 6 .frz, .tidy] (w_m_post_Publish_k4 (m_10_1 := m_10_1) (m_20_1 := m_20_1) (m_30_1 := m_30_1) (m_40_1 := m_40_1) (m_50_1 := m_50_1) (m_60_1 := m_60_1) h)
  · refine condFP (Wp.skip (seqN ?_))
    exact jumpK [.kill [5, 124], .cell 19 6 .frz, .tidy] (w_m_post_Publish_k4 (m_10_1 := m_10_1) (m_20_1 := m_20_1) (m_30_1 := m_30_1) (m_40_1 := m_40_1) (m_50_1 := m_50_1) (m_60_1 := m_60_1) h)
theorem w_m_post_Publish_l1_B {keep : Int} {r0_6 : TPost} {r : (TPost × Int × (List THit) × Int)}   {rec_m_post_Publish_l1 : Int → (List TSub) → Int → ByteArray → Int → (List ByteArray) → (List Int) → Int → (List TWho) → (List THit) → Option (TPost × Int × (List THit) × Int)} (hrec_m_post_Publish_l1 : H_m_post_Publish_l1 keep r0_6 rec_m_post_Publish_l1 r) {v105 : Int} {out_2 : (List TSub)} {m_00 : Int} {m_10 : ByteArray} {m_20 : Int} {m_30 : (List ByteArray)} {m_40 : (List Int)} {m_50 : Int} {m_60 : (List TWho)} {hits : (List THit)} (h : m_post_Publish_l1_B  keep r0_6 rec_m_post_Publish_l1 v105 out_2 m_00 m_10 m_20 m_30 m_40 m_50 m_60 hits = some r) : LWp Pg 135 0 i16_L0 ⟨[(0, .bad), (1, .bad), (2, .bad), (3, .bad), (4, .bad), (5, .int .i64 keep), (6, .bad), (9, .bad), (12, .ptr 0 0), (13, .bad), (14, .bad), (15, .bad), (16, .bad), (17, .bad), (18, .ptr 1 0), (19, .ptr 4 0), (20, .own 5 6 0 hits.length false), (21, .bad), (22, .bad), (23, .bad), (33, .bad), (59, .bad), (79, .bad), (104, .int .i64 (((r0_6.Subs).length : Nat) : Int)), (105, .int .i64 v105), (106, .bad), (116, .bad), (124, .bad)], [], (hp13 (0 : Int) (IntKind.i64.wrap (r0_6.Next + (1 : Int))) r0_6.Mails out_2 m_00 m_10 m_20 m_30 m_40 m_50 m_60 hits), 7⟩ (blockQ 1 (seqQ Pg 135 0 (.seq (.seq (.reg none i16_R22) (.cond (.t 124) (.reg none i16_R23) .skip)) (.seq (.reg (some [(2, 4)]) i16_R24) .ret)) (qf_16 r))) := by
  unfold m_post_Publish_l1_B at h
  refine LWp.stepC i16_L0.eq_1 ?_
  refine Wp.seq (regP (seqN (Wp.seq ?_)))
  replace h := ifS h; rcases h with ⟨g18, h⟩ | ⟨g18, h⟩
  · refine condTP (Wp.skip (seqN (Wp.seq (Wp.block (Wp.seq ?_)))))
    refine regP (seqN (Wp.seq ?_))
    replace h := bndS h; obtain ⟨e, g19, h⟩ := h
    have := ias_ownL (n := 6) (id := 3) (ex := false) (k := .i64) g19 rfl
    refine regP (seqN (Wp.seq ?_))
    replace h := bndS h; obtain ⟨r0_8, g20, h⟩ := h
    have := ld_get (c := TSub.c) g19
    refine drawP [] mixed (clsC 4 (tab_cons (w_m_post_suits g20) (tab_nil _)) (clsN _)) (seqN ?_)
    replace h := ifS h; rcases h with ⟨g21, h⟩ | ⟨g21, h⟩
    · refine condTP (Wp.reg ?_)
      replace h := bndS h; obtain ⟨r0_9, g22, h⟩ := h
      replace h := reqS h; obtain ⟨g23, h⟩ := h
      have := of_decide_eq_true g23
      refine chunkF 3 (tab_cons (w_m_post_give_v1 g22) (tab_nil _)) ?_
      replace h := reqS h; obtain ⟨g24, h⟩ := h
      refine lastT (tab_nil _) (blockN (seqN ?_))
      refine regP (loopN ?_)
      exact jumpL [.kill [21, 22, 106, 116], .tidy] (hrec_m_post_Publish_l1 h)
    · refine condFP (Wp.skip (blockN (seqN ?_)))
      refine regP (loopN ?_)
      exact jumpL [.kill [21, 22, 106, 116], .tidy] (hrec_m_post_Publish_l1 h)
  · refine condFP (Wp.out (seqO (loopO (blockO (seqN ?_)))))
    exact jumpK [.kill [104, 105, 106]] (w_m_post_Publish_k3 h)
theorem w_m_post_Publish_l1 {keep : Int} {r0_6 : TPost} {r : (TPost × Int × (List THit) × Int)}   : ∀ (n : Nat), H_m_post_Publish_l1 keep r0_6 (m_post_Publish_l1  keep r0_6 n) r := by
  intro n
  induction n with
  | zero => intro v105 out_2 m_00 m_10 m_20 m_30 m_40 m_50 m_60 hits h; unfold m_post_Publish_l1 at h; cases h
  | succ n ih => intro v105 out_2 m_00 m_10 m_20 m_30 m_40 m_50 m_60 hits h; unfold m_post_Publish_l1 at h; exact w_m_post_Publish_l1_B  ih h
theorem w_m_post_Publish_k2 {p : TPost} {name : ByteArray} {k : Int} {v : TVars} {now keep : Int} {v79 : Bool} {r : (TPost × Int × (List THit) × Int)}   (h : m_post_Publish_k2 p name k v now keep v79 = some r) : Wp Pg 135 0 (.cond (.t 79) (.seq (.reg none i16_R10) .ret) .skip) ⟨[(0, .bad), (1, .str name), (2, .int .i64 k), (3, .bad), (4, .int .i64 now), (5, .int .i64 keep), (6, .ptr 0 0), (9, .ptr 1 0), (12, .ptr 2 0), (13, .bad), (14, .bad), (15, .bad), (16, .fn (.func 54) [] []), (17, .bad), (18, .bad), (19, .bad), (20, .bad), (21, .bad), (22, .bad), (23, .bad), (33, .bad), (59, .bad), (79, .bool v79), (104, .bad), (105, .bad), (106, .bad), (116, .bad), (124, .bad)], [], [(0, .box [.int .i64 p.Next, sl TMail.c p.Mails, sl TSub.c p.Subs]), (1, .box [sl cs v.Names, sl (ci .i64) v.Vals]), (2, .box [.int .i64 (0 : Int), .nil, .nil])], 3⟩ (seqQ Pg 135 0 (.seq (.reg none i16_R11) (.seq (.reg (some [(1, 5), (1, 10), (4, 10), (5, 10)]) i16_R12) (.seq (.reg none i16_R13) (.seq (.reg none i16_R14) (.seq (.seq (.reg none i16_R15) (.block 1 (.loop i16_L0))) (.seq (.seq (.reg none i16_R22) (.cond (.t 124) (.reg none i16_R23) .skip)) (.seq (.reg (some [(2, 4)]) i16_R24) .ret))))))) (qf_16 r)) := by
  unfold m_post_Publish_k2 at h
  replace h := ifS h; rcases h with ⟨g14, h⟩ | ⟨g14, h⟩
  · refine condTP (Wp.seq (Wp.reg ?_))
    replace h := bndS h; obtain ⟨r0_5, g15, h⟩ := h
    replace h := retS h; subst h
    refine chunkT 2 (tab_cons (w_m_post_Publish_1 g15) (tab_nil _)) ?_
    refine lastT (tab_nil _) (seqN (Wp.ret (seqR ?_)))
    exact finP
  · refine condFP (Wp.skip (seqN (Wp.seq (Wp.reg ?_))))
    replace h := bndS h; obtain ⟨r0_6, g16, h⟩ := h
    refine chunkF 2 (tab_cons (w_m_post_Copy g16) (tab_nil _)) ?_
    refine lastT (tab_nil _) (seqN (Wp.seq ?_))
    replace h := bndS h; obtain ⟨r0_7, g17, h⟩ := h
    refine drawP [] mixed (clsC 5 (tab_cons (w_m_vars_Copy g17) (tab_nil _)) (clsN _)) (seqN (Wp.seq ?_))
    refine regP (seqN (Wp.seq ?_))
    refine regP (seqN (Wp.seq (Wp.seq ?_)))
    refine regP (seqN (Wp.block (Wp.loop ?_)))
    exact jumpL [.kill [1, 2, 4, 6, 9, 16, 79], .at 20 (.virt 5), .cell 19 6 (.virt 2), .tidy] (w_m_post_Publish_l1 _ h)
theorem w_m_post_Publish_k1 {p : TPost} {name : ByteArray} {k : Int} {v : TVars} {now keep : Int} {v33 : Bool} {r : (TPost × Int × (List THit) × Int)}   (h : m_post_Publish_k1 p name k v now keep v33 = some r) : Wp Pg 135 0 (.cond (.t 33) (.seq (.reg none i16_R5) .ret) .skip) ⟨[(0, .bad), (1, .str name), (2, .int .i64 k), (3, .bad), (4, .int .i64 now), (5, .int .i64 keep), (6, .ptr 0 0), (9, .ptr 1 0), (12, .ptr 2 0), (13, .bad), (14, .bad), (15, .bad), (16, .fn (.func 54) [] []), (17, .bad), (18, .bad), (19, .bad), (20, .bad), (21, .bad), (22, .bad), (23, .bad), (33, .bool v33), (59, .bad), (79, .bad), (104, .bad), (105, .bad), (106, .bad), (116, .bad), (124, .bad)], [], [(0, .box [.int .i64 p.Next, sl TMail.c p.Mails, sl TSub.c p.Subs]), (1, .box [sl cs v.Names, sl (ci .i64) v.Vals]), (2, .box [.int .i64 (0 : Int), .nil, .nil])], 3⟩ (blockQ 0 (seqQ Pg 135 0 (.seq (.seq (.reg none i16_R6) (.seq (.reg none i16_R7) (.cond (.t 59) (.seq (.reg none i16_R8) .ret) .skip))) (.seq (.seq (.reg none i16_R9) (.cond (.t 79) (.seq (.reg none i16_R10) .ret) .skip)) (.seq (.reg none i16_R11) (.seq (.reg (some [(1, 5), (1, 10), (4, 10), (5, 10)]) i16_R12) (.seq (.reg none i16_R13) (.seq (.reg none i16_R14) (.seq (.seq (.reg none i16_R15) (.block 1 (.loop i16_L0))) (.seq (.seq (.reg none i16_R22) (.cond (.t 124) (.reg none i16_R23) .skip)) (.seq (.reg (some [(2, 4)]) i16_R24) .ret))))))))) (qf_16 r))) := by
  unfold m_post_Publish_k1 at h
  replace h := ifS h; rcases h with ⟨g6, h⟩ | ⟨g6, h⟩
  · refine condTP (Wp.seq (Wp.reg ?_))
    replace h := bndS h; obtain ⟨r0_1, g7, h⟩ := h
    replace h := retS h; subst h
    refine chunkT 2 (tab_cons (w_m_post_Publish_1 g7) (tab_nil _)) ?_
    refine lastT (tab_nil _) (seqN (Wp.ret (blockR (seqR ?_))))
    exact finP
  · refine condFP (Wp.skip (blockN (seqN (Wp.seq (Wp.seq (Wp.reg ?_))))))
    replace h := bndS h; obtain ⟨r0_3, g9, h⟩ := h
    refine chunkT 2 (tab_cons (w_m_vars_Check g9) (tab_nil _)) ?_
    refine lastT (tab_nil _) (seqN (Wp.seq ?_))
    refine regP (seqN ?_)
    replace h := ifS h; rcases h with ⟨g10, h⟩ | ⟨g10, h⟩
    · refine condTP (Wp.seq (Wp.reg ?_))
      replace h := bndS h; obtain ⟨r0_4, g11, h⟩ := h
      replace h := retS h; subst h
      refine chunkT 3 (tab_cons (w_m_post_Publish_1 g11) (tab_nil _)) ?_
      refine lastT (tab_nil _) (seqN (Wp.ret (seqR ?_)))
      exact finP
    · refine condFP (Wp.skip (seqN (Wp.seq (Wp.seq ?_))))
      replace h := ifS h; rcases h with ⟨g12, h⟩ | ⟨g12, h⟩
      · refine regP (seqN ?_)
        exact jumpK [.kill [17, 33, 59]] (w_m_post_Publish_k2 h)
      · replace h := ifS h; rcases h with ⟨g13, h⟩ | ⟨g13, h⟩
        · refine regP (seqN ?_)
          exact jumpK [.kill [17, 33, 59]] (w_m_post_Publish_k2 h)
        · refine regP (seqN ?_)
          exact jumpK [.kill [17, 33, 59]] (w_m_post_Publish_k2 h)
theorem w_m_post_Publish {p : TPost} {name : ByteArray} {k : Int} {v : TVars} {now : Int} {keep : Int} {r : (TPost × Int × (List THit) × Int)}   (h : m_post_Publish p name k v now keep = some r) : Spec Pg 16 [.agg [.int .i64 p.Next, sl TMail.c p.Mails, sl TSub.c p.Subs], .str name, .int .i64 k, .agg [sl cs v.Names, sl (ci .i64) v.Vals], .int .i64 now, .int .i64 keep] [] 0 (.tup [.agg [.int .i64 r.1.Next, sl TMail.c r.1.Mails, sl TSub.c r.1.Subs], .int .i64 r.2.1, sl THit.c r.2.2.1, .int .i64 r.2.2.2]) [] 0 := by
  refine Spec.intro Try.func16 i16_ok (le_of_ble rfl) ?_
  show Wp Pg 135 0 i16_B ⟨argEnv _ i16_V, [], _, _⟩ (qf_16 r)
  unfold m_post_Publish at h
  unfold i16_B
  refine weakP [] ?_
  refine Wp.seq (regP (seqN (Wp.seq ?_)))
  refine regP (seqN (Wp.seq (Wp.block (Wp.seq (Wp.reg ?_)))))
  replace h := bndS h; obtain ⟨r0, g1, h⟩ := h
  refine chunkT 2 (tab_cons (w_m_pack_Name g1) (tab_nil _)) ?_
  refine lastT (tab_nil _) (seqN ?_)
  replace h := ifS h; rcases h with ⟨g2, h⟩ | ⟨g2, h⟩
  · refine condFP (Wp.seq ?_)
    replace h := ifS h; rcases h with ⟨g3, h⟩ | ⟨g3, h⟩
    · refine regP (seqN ?_)
      exact jumpK [.kill [0, 3, 13, 14, 15, 17, 18, 19, 20, 21, 22, 23, 59, 79, 104, 105, 106, 116, 124], .tidy] (w_m_post_Publish_k1 h)
    · replace h := ifS h; rcases h with ⟨g4, h⟩ | ⟨g4, h⟩
      · refine regP (seqN ?_)
        exact jumpK [.kill [0, 3, 13, 14, 15, 17, 18, 19, 20, 21, 22, 23, 59, 79, 104, 105, 106, 116, 124], .tidy] (w_m_post_Publish_k1 h)
      · replace h := ifS h; rcases h with ⟨g5, h⟩ | ⟨g5, h⟩
        · refine regP (seqN ?_)
          exact jumpK [.kill [0, 3, 13, 14, 15, 17, 18, 19, 20, 21, 22, 23, 59, 79, 104, 105, 106, 116, 124], .tidy] (w_m_post_Publish_k1 h)
        · refine regP (seqN ?_)
          exact jumpK [.kill [0, 3, 13, 14, 15, 17, 18, 19, 20, 21, 22, 23, 59, 79, 104, 105, 106, 116, 124], .tidy] (w_m_post_Publish_k1 h)
  · refine condTP (Wp.seq (Wp.reg ?_))
    replace h := bndS h; obtain ⟨r0_2, g8, h⟩ := h
    replace h := retS h; subst h
    refine chunkT 2 (tab_cons (w_m_post_Publish_1 g8) (tab_nil _)) ?_
    refine lastT (tab_nil _) (seqN (Wp.ret (blockR (seqR ?_))))
    exact finP
/-! funicular/funicularref22.suits -/
/-! funicular/funicularref22.hit -/
/-! funicular/funicularref22.and -/
/-! funicular/funicularref22.Publish -/
/-! funicular/funicularref22.Hits -/
/-! funicular/post.find -/
noncomputable abbrev qf_65 (r : (Int × Bool)) : Ex → St → Prop := FinQ 0 [.tmp 4, .tmp 5] (.tup [.int .i64 r.1, .bool r.2]) [] 0
theorem w_m_post_find {p : TPost} {k : Tkey} {r : (Int × Bool)}   (h : m_post_find p k = some r) : Spec Pg 65 [.agg [.int .i64 p.Next, sl TMail.c p.Mails, sl TSub.c p.Subs], .agg [.int .i64 k.f_part, .int .i64 k.f_id]] [] 0 (.tup [.int .i64 r.1, .bool r.2]) [] 0 := by
  refine Spec.intro Try.func65 i65_ok (le_of_ble rfl) ?_
  show Wp Pg 12 0 i65_B ⟨argEnv _ i65_V, [], _, _⟩ (qf_65 r)
  unfold m_post_find at h
  unfold i65_B
  refine weakP [] ?_
  refine Wp.seq (regP (seqN (Wp.seq (Wp.reg ?_))))
  replace h := bndS h; obtain ⟨r0, g1, h⟩ := h
  replace h := retS h; subst h
  refine chunkF 4 (tab_cons (w_m_slices_BinarySearchFunc_api_Sub_api_Sub_post_key g1) (tab_nil _)) ?_
  refine lastT (tab_nil _) (seqN (Wp.ret ?_))
  exact finP
end Go.Proofs.Ytefjblgmnoheiaa.R
