/- The program's functions answer what the models answer: 8. -/
import Derived.Test.YtcmejocmohohpaaMW0
import Derived.Test.YtcmejocmohohpaaMW4
set_option maxRecDepth 100000
set_option linter.unusedVariables false
set_option linter.unusedSimpArgs false
noncomputable section
namespace Go.Proofs.Ytcmejocmohohpaa.R
open Go Nat
/-! funicular/funicularref09.put -/
noncomputable abbrev qf_36 (r : TVars) : Ex → St → Prop := FinQ 0 [.cell 6 true 2] (.agg [sl cs r.Names, sl (ci .i64) r.Vals]) [] 0
theorem w_m_ref09_put_k4 {name : ByteArray} {n0 : Int} {done_3 : Bool} {out_0_3 : (List ByteArray)} {out_1_3 : (List Int)} {r : TVars}   (h : m_ref09_put_k4 name n0 done_3 out_0_3 out_1_3 = some r) : Wp Pg 84 0 (.seq (.seq (.reg none i36_R13) (.cond (.t 70) (.seq (.reg none i36_R14) (.reg none i36_R15)) .skip)) (.seq (.reg none i36_R16) .ret)) ⟨[(0, .bad), (1, .str name), (2, .int .i64 n0), (3, .bad), (6, .ptr 0 0), (7, .ptr 1 0), (8, .bool done_3), (9, .bad), (15, .bad), (29, .bad), (48, .bad), (70, .bad)], [], [(0, .box [.nil, .nil]), (1, .box [.own 1 2 0 out_0_3.length false, .own 1 3 0 out_1_3.length false]), (2, .arr 1 (List.map cs out_0_3) 0), (3, .arr 1 (List.map (ci .i64) out_1_3) 0)], 4⟩ (qf_36 r) := by
  unfold m_ref09_put_k4 at h
  refine Wp.seq (Wp.seq (regP (seqN ?_)))
  replace h := ifS h; rcases h with ⟨g12, h⟩ | ⟨g12, h⟩
  · replace h := retS h; subst h
    refine condFP (Wp.skip (seqN (Wp.seq ?_)))
    refine regP (seqN ?_)
    refine weakP [.cell 6 0 .frz, .cell 6 1 .frz] (Wp.ret ?_)
    exact finP
  · refine condTP (Wp.seq ?_)
    replace h := reqS h; obtain ⟨g13, h⟩ := h
    refine regP (seqN ?_)
    replace h := reqS h; obtain ⟨g14, h⟩ := h
    replace h := retS h; subst h
    refine regP (seqN (Wp.seq ?_))
    refine regP (seqN ?_)
    refine weakP [.cell 6 0 .frz, .cell 6 1 .frz] (Wp.ret ?_)
    exact finP
theorem w_m_ref09_put_k3 {v : TVars} {name : ByteArray} {n0 : Int} {i : Int} {done_2 : Bool} {out_0_2 : (List ByteArray)} {out_1_2 : (List Int)} {r : TVars} {rec_m_ref09_put_l1 : Bool → Int → (List ByteArray) → (List Int) → Option TVars} (hrec_m_ref09_put_l1 : ∀ {done : Bool} {i : Int} {out_0 : (List ByteArray)} {out_1 : (List Int)}, rec_m_ref09_put_l1 done i out_0 out_1 = some r → LWp Pg 84 0 i36_L0 ⟨[(0, .bad), (1, .str name), (2, .int .i64 n0), (3, .ptr 0 0), (6, .ptr 1 0), (7, .ptr 2 0), (8, .bool done), (9, .int .i64 i), (15, .bad), (29, .bad), (48, .bad), (70, .bad)], [], [(0, .box [sl cs v.Names, sl (ci .i64) v.Vals]), (1, .box [.nil, .nil]), (2, .box [.own 1 3 0 out_0.length false, .own 1 4 0 out_1.length false]), (3, .arr 1 (List.map cs out_0) 0), (4, .arr 1 (List.map (ci .i64) out_1) 0)], 5⟩ (blockQ 0 (seqQ Pg 84 0 (.seq (.seq (.reg none i36_R13) (.cond (.t 70) (.seq (.reg none i36_R14) (.reg none i36_R15)) .skip)) (.seq (.reg none i36_R16) .ret)) (qf_36 r)))) (h : m_ref09_put_k3 rec_m_ref09_put_l1 i done_2 out_0_2 out_1_2 = some r) : Wp Pg 84 0 (.reg none i36_R12) ⟨[(0, .bad), (1, .str name), (2, .int .i64 n0), (3, .ptr 0 0), (6, .ptr 1 0), (7, .ptr 2 0), (8, .bool done_2), (9, .int .i64 i), (15, .bad), (29, .bad), (48, .bad), (70, .bad)], [], [(0, .box [sl cs v.Names, sl (ci .i64) v.Vals]), (1, .box [.nil, .nil]), (2, .box [.own 1 3 0 out_0_2.length false, .own 1 4 0 out_1_2.length false]), (3, .arr 1 (List.map cs out_0_2) 0), (4, .arr 1 (List.map (ci .i64) out_1_2) 0)], 5⟩ (loopQ Pg 84 0 i36_L0 (blockQ 0 (seqQ Pg 84 0 (.seq (.seq (.reg none i36_R13) (.cond (.t 70) (.seq (.reg none i36_R14) (.reg none i36_R15)) .skip)) (.seq (.reg none i36_R16) .ret)) (qf_36 r)))) := by
  unfold m_ref09_put_k3 at h
  refine regP (loopN ?_)
  exact jumpL [] (hrec_m_ref09_put_l1 h)
theorem w_m_ref09_put_k2 {n0 : Int} {v : TVars} {name : ByteArray} {i : Int} {done_2 : Bool} {out_0_1 : (List ByteArray)} {out_1_1 : (List Int)} {r : TVars} {rec_m_ref09_put_l1 : Bool → Int → (List ByteArray) → (List Int) → Option TVars} (hrec_m_ref09_put_l1 : ∀ {done : Bool} {i : Int} {out_0 : (List ByteArray)} {out_1 : (List Int)}, rec_m_ref09_put_l1 done i out_0 out_1 = some r → LWp Pg 84 0 i36_L0 ⟨[(0, .bad), (1, .str name), (2, .int .i64 n0), (3, .ptr 0 0), (6, .ptr 1 0), (7, .ptr 2 0), (8, .bool done), (9, .int .i64 i), (15, .bad), (29, .bad), (48, .bad), (70, .bad)], [], [(0, .box [sl cs v.Names, sl (ci .i64) v.Vals]), (1, .box [.nil, .nil]), (2, .box [.own 1 3 0 out_0.length false, .own 1 4 0 out_1.length false]), (3, .arr 1 (List.map cs out_0) 0), (4, .arr 1 (List.map (ci .i64) out_1) 0)], 5⟩ (blockQ 0 (seqQ Pg 84 0 (.seq (.seq (.reg none i36_R13) (.cond (.t 70) (.seq (.reg none i36_R14) (.reg none i36_R15)) .skip)) (.seq (.reg none i36_R16) .ret)) (qf_36 r)))) (h : m_ref09_put_k2 rec_m_ref09_put_l1 v name i done_2 out_0_1 out_1_1 = some r) : Wp Pg 84 0 (.seq (.reg none i36_R9) (.cond (.t 48) (.seq (.reg (some []) i36_R10) (.reg (some []) i36_R11)) .skip)) ⟨[(0, .bad), (1, .str name), (2, .int .i64 n0), (3, .ptr 0 0), (6, .ptr 1 0), (7, .ptr 2 0), (8, .bool done_2), (9, .int .i64 i), (15, .bad), (29, .bad), (48, .bad), (70, .bad)], [], [(0, .box [sl cs v.Names, sl (ci .i64) v.Vals]), (1, .box [.nil, .nil]), (2, .box [.own 1 3 0 out_0_1.length false, .own 1 4 0 out_1_1.length false]), (3, .arr 1 (List.map cs out_0_1) 0), (4, .arr 1 (List.map (ci .i64) out_1_1) 0)], 5⟩ (blockQ 1 (seqQ Pg 84 0 (.reg none i36_R12) (loopQ Pg 84 0 i36_L0 (blockQ 0 (seqQ Pg 84 0 (.seq (.seq (.reg none i36_R13) (.cond (.t 70) (.seq (.reg none i36_R14) (.reg none i36_R15)) .skip)) (.seq (.reg none i36_R16) .ret)) (qf_36 r)))))) := by
  unfold m_ref09_put_k2 at h
  refine Wp.seq ?_
  replace h := bndS h; obtain ⟨e_1, g7, h⟩ := h
  refine regP (seqN ?_)
  replace h := ifS h; rcases h with ⟨g8, h⟩ | ⟨g8, h⟩
  · refine condFP (Wp.skip (blockN (seqN ?_)))
    exact jumpK [.kill [48]] (w_m_ref09_put_k3 (v := v) (name := name) (n0 := n0) hrec_m_ref09_put_l1 h)
  · refine condTP (Wp.seq ?_)
    replace h := reqS h; obtain ⟨g9, h⟩ := h
    refine drawP mixed (tab_nil _) (seqN ?_)
    replace h := bndS h; obtain ⟨e_2, g10, h⟩ := h
    replace h := reqS h; obtain ⟨g11, h⟩ := h
    refine drawP mixed (tab_nil _) (blockN (seqN ?_))
    exact jumpK [.kill [48], .tidy] (w_m_ref09_put_k3 (v := v) (name := name) (n0 := n0) hrec_m_ref09_put_l1 h)
theorem w_m_ref09_put_k1 {v : TVars} {name : ByteArray} {n0 : Int} {i : Int} {out_0 : (List ByteArray)} {out_1 : (List Int)} {done_1 : Bool} {v29 : Bool} {r : TVars} {rec_m_ref09_put_l1 : Bool → Int → (List ByteArray) → (List Int) → Option TVars} (hrec_m_ref09_put_l1 : ∀ {done : Bool} {i : Int} {out_0 : (List ByteArray)} {out_1 : (List Int)}, rec_m_ref09_put_l1 done i out_0 out_1 = some r → LWp Pg 84 0 i36_L0 ⟨[(0, .bad), (1, .str name), (2, .int .i64 n0), (3, .ptr 0 0), (6, .ptr 1 0), (7, .ptr 2 0), (8, .bool done), (9, .int .i64 i), (15, .bad), (29, .bad), (48, .bad), (70, .bad)], [], [(0, .box [sl cs v.Names, sl (ci .i64) v.Vals]), (1, .box [.nil, .nil]), (2, .box [.own 1 3 0 out_0.length false, .own 1 4 0 out_1.length false]), (3, .arr 1 (List.map cs out_0) 0), (4, .arr 1 (List.map (ci .i64) out_1) 0)], 5⟩ (blockQ 0 (seqQ Pg 84 0 (.seq (.seq (.reg none i36_R13) (.cond (.t 70) (.seq (.reg none i36_R14) (.reg none i36_R15)) .skip)) (.seq (.reg none i36_R16) .ret)) (qf_36 r)))) (h : m_ref09_put_k1 rec_m_ref09_put_l1 v name n0 i out_0 out_1 done_1 v29 = some r) : Wp Pg 84 0 (.cond (.t 29) (.seq (.reg none i36_R6) (.seq (.reg none i36_R7) (.reg none i36_R8))) .skip) ⟨[(0, .bad), (1, .str name), (2, .int .i64 n0), (3, .ptr 0 0), (6, .ptr 1 0), (7, .ptr 2 0), (8, .bool done_1), (9, .int .i64 i), (15, .bad), (29, .bool v29), (48, .bad), (70, .bad)], [], [(0, .box [sl cs v.Names, sl (ci .i64) v.Vals]), (1, .box [.nil, .nil]), (2, .box [.own 1 3 0 out_0.length false, .own 1 4 0 out_1.length false]), (3, .arr 1 (List.map cs out_0) 0), (4, .arr 1 (List.map (ci .i64) out_1) 0)], 5⟩ (seqQ Pg 84 0 (.seq (.reg none i36_R9) (.cond (.t 48) (.seq (.reg (some []) i36_R10) (.reg (some []) i36_R11)) .skip)) (blockQ 1 (seqQ Pg 84 0 (.reg none i36_R12) (loopQ Pg 84 0 i36_L0 (blockQ 0 (seqQ Pg 84 0 (.seq (.seq (.reg none i36_R13) (.cond (.t 70) (.seq (.reg none i36_R14) (.reg none i36_R15)) .skip)) (.seq (.reg none i36_R16) .ret)) (qf_36 r))))))) := by
  unfold m_ref09_put_k1 at h
  replace h := ifS h; rcases h with ⟨g4, h⟩ | ⟨g4, h⟩
  · refine condTP (Wp.seq ?_)
    replace h := reqS h; obtain ⟨g5, h⟩ := h
    refine regP (seqN (Wp.seq ?_))
    replace h := reqS h; obtain ⟨g6, h⟩ := h
    refine regP (seqN ?_)
    refine regP (seqN ?_)
    exact jumpK [.kill [29], .tidy] (w_m_ref09_put_k2 (n0 := n0) hrec_m_ref09_put_l1 h)
  · refine condFP (Wp.skip (seqN ?_))
    exact jumpK [.kill [29]] (w_m_ref09_put_k2 (n0 := n0) hrec_m_ref09_put_l1 h)
theorem w_m_ref09_put_l1_B {v : TVars} {name : ByteArray} {n0 : Int} {r : TVars}   {rec_m_ref09_put_l1 : Bool → Int → (List ByteArray) → (List Int) → Option TVars} (hrec_m_ref09_put_l1 : ∀ {done : Bool} {i : Int} {out_0 : (List ByteArray)} {out_1 : (List Int)}, rec_m_ref09_put_l1 done i out_0 out_1 = some r → LWp Pg 84 0 i36_L0 ⟨[(0, .bad), (1, .str name), (2, .int .i64 n0), (3, .ptr 0 0), (6, .ptr 1 0), (7, .ptr 2 0), (8, .bool done), (9, .int .i64 i), (15, .bad), (29, .bad), (48, .bad), (70, .bad)], [], [(0, .box [sl cs v.Names, sl (ci .i64) v.Vals]), (1, .box [.nil, .nil]), (2, .box [.own 1 3 0 out_0.length false, .own 1 4 0 out_1.length false]), (3, .arr 1 (List.map cs out_0) 0), (4, .arr 1 (List.map (ci .i64) out_1) 0)], 5⟩ (blockQ 0 (seqQ Pg 84 0 (.seq (.seq (.reg none i36_R13) (.cond (.t 70) (.seq (.reg none i36_R14) (.reg none i36_R15)) .skip)) (.seq (.reg none i36_R16) .ret)) (qf_36 r)))) {done : Bool} {i : Int} {out_0 : (List ByteArray)} {out_1 : (List Int)} (h : m_ref09_put_l1_B  v name n0 rec_m_ref09_put_l1 done i out_0 out_1 = some r) : LWp Pg 84 0 i36_L0 ⟨[(0, .bad), (1, .str name), (2, .int .i64 n0), (3, .ptr 0 0), (6, .ptr 1 0), (7, .ptr 2 0), (8, .bool done), (9, .int .i64 i), (15, .bad), (29, .bad), (48, .bad), (70, .bad)], [], [(0, .box [sl cs v.Names, sl (ci .i64) v.Vals]), (1, .box [.nil, .nil]), (2, .box [.own 1 3 0 out_0.length false, .own 1 4 0 out_1.length false]), (3, .arr 1 (List.map cs out_0) 0), (4, .arr 1 (List.map (ci .i64) out_1) 0)], 5⟩ (blockQ 0 (seqQ Pg 84 0 (.seq (.seq (.reg none i36_R13) (.cond (.t 70) (.seq (.reg none i36_R14) (.reg none i36_R15)) .skip)) (.seq (.reg none i36_R16) .ret)) (qf_36 r))) := by
  unfold m_ref09_put_l1_B at h
  refine LWp.stepC i36_L0.eq_1 ?_
  refine Wp.seq (Wp.seq (regP (seqN ?_)))
  replace h := ifS h; rcases h with ⟨g1, h⟩ | ⟨g1, h⟩
  · refine condTP (Wp.skip (seqN (Wp.seq (Wp.block (Wp.seq (Wp.seq ?_))))))
    replace h := ifS h; rcases h with ⟨g2, h⟩ | ⟨g2, h⟩
    · refine regP (seqN ?_)
      exact jumpK [.kill [15]] (w_m_ref09_put_k1 hrec_m_ref09_put_l1 h)
    · replace h := bndS h; obtain ⟨e, g3, h⟩ := h
      refine regP (seqN ?_)
      exact jumpK [.kill [15]] (w_m_ref09_put_k1 hrec_m_ref09_put_l1 h)
  · refine condFP (Wp.out (seqO (loopO (blockO (seqN ?_)))))
    exact jumpK [.kill [3, 9, 15], .tidy] (w_m_ref09_put_k4 h)
theorem w_m_ref09_put_l1 {v : TVars} {name : ByteArray} {n0 : Int} {r : TVars}   : ∀ (n : Nat) {done : Bool} {i : Int} {out_0 : (List ByteArray)} {out_1 : (List Int)}, m_ref09_put_l1  v name n0 n done i out_0 out_1 = some r → LWp Pg 84 0 i36_L0 ⟨[(0, .bad), (1, .str name), (2, .int .i64 n0), (3, .ptr 0 0), (6, .ptr 1 0), (7, .ptr 2 0), (8, .bool done), (9, .int .i64 i), (15, .bad), (29, .bad), (48, .bad), (70, .bad)], [], [(0, .box [sl cs v.Names, sl (ci .i64) v.Vals]), (1, .box [.nil, .nil]), (2, .box [.own 1 3 0 out_0.length false, .own 1 4 0 out_1.length false]), (3, .arr 1 (List.map cs out_0) 0), (4, .arr 1 (List.map (ci .i64) out_1) 0)], 5⟩ (blockQ 0 (seqQ Pg 84 0 (.seq (.seq (.reg none i36_R13) (.cond (.t 70) (.seq (.reg none i36_R14) (.reg none i36_R15)) .skip)) (.seq (.reg none i36_R16) .ret)) (qf_36 r))) := by
  intro n
  induction n with
  | zero => intro done i out_0 out_1 h; unfold m_ref09_put_l1 at h; cases h
  | succ n ih => intro done i out_0 out_1 h; unfold m_ref09_put_l1 at h; exact w_m_ref09_put_l1_B  ih h
theorem w_m_ref09_put {v : TVars} {name : ByteArray} {n0 : Int} {r : TVars}   (h : m_ref09_put v name n0 = some r) : Spec Pg 36 [.agg [sl cs v.Names, sl (ci .i64) v.Vals], .str name, .int .i64 n0] [] 0 (.agg [sl cs r.Names, sl (ci .i64) r.Vals]) [] 0 := by
  refine Spec.intro Go.Proofs.Try.func36 i36_ok (le_of_ble rfl) ?_
  show Wp Pg 84 0 i36_B ⟨argEnv [.agg [sl cs v.Names, sl (ci .i64) v.Vals], .str name, .int .i64 n0] i36_V, [], [], 0⟩ (qf_36 r)
  unfold m_ref09_put at h
  unfold i36_B
  refine weakP [] ?_
  refine Wp.seq (regP (seqN (Wp.seq ?_)))
  refine regP (seqN (Wp.seq ?_))
  refine regP (seqN (Wp.seq (Wp.seq ?_)))
  refine regP (seqN (Wp.block (Wp.loop ?_)))
  exact jumpL [.kill [0, 15, 29, 48, 70], .cell 7 0 (.virt 1), .cell 7 1 (.virt 1), .tidy] (w_m_ref09_put_l1 _ h)
/-! funicular/funicularref09.Of -/
noncomputable abbrev qf_19 (r : (TVars × Int)) : Ex → St → Prop := FinQ 0 [.cell 2 true 2, .tmp 3] (.tup [.agg [sl cs r.1.Names, sl (ci .i64) r.1.Vals], .int .i64 r.2]) [] 0
theorem w_m_ref09_Of_k2 {out_0_3 : (List ByteArray)} {out_1_3 : (List Int)} {r : (TVars × Int)}   (h : m_ref09_Of_k2 out_0_3 out_1_3 = some r) : Wp Pg 58 0 (.seq (.seq (.reg none i19_R12) (.cond (.t 55) (.seq (.reg none i19_R13) .ret) .skip)) (.seq (.reg none i19_R14) .ret)) ⟨[(0, .bad), (2, .ptr 0 0), (3, .bad), (4, .ptr 1 0), (5, .bad), (6, .bad), (7, .bad), (12, .bad), (21, .bad), (31, .bad), (55, .bad)], [], [(0, .box [.nil, .nil]), (1, .box [sl cs out_0_3, sl (ci .i64) out_1_3])], 2⟩ (qf_19 r) := by
  unfold m_ref09_Of_k2 at h
  refine Wp.seq (Wp.seq (regP (seqN ?_)))
  replace h := ifS h; rcases h with ⟨g10, h⟩ | ⟨g10, h⟩
  · replace h := retS h; subst h
    refine condTP (Wp.seq ?_)
    refine regP (seqN ?_)
    refine weakP [.cell 2 0 .frz, .cell 2 1 .frz] (Wp.ret (seqR ?_))
    exact finP
  · replace h := retS h; subst h
    refine condFP (Wp.skip (seqN (Wp.seq ?_)))
    refine regP (seqN (Wp.ret ?_))
    exact finP
theorem w_m_ref09_Of_k1 {l : (List TVars)} {i : Int} {out_0_2 : (List ByteArray)} {out_1_2 : (List Int)} {r : (TVars × Int)} {rec_m_ref09_Of_l1 : Int → (List ByteArray) → (List Int) → Option (TVars × Int)} (hrec_m_ref09_Of_l1 : ∀ {i : Int} {out_0 : (List ByteArray)} {out_1 : (List Int)}, rec_m_ref09_Of_l1 i out_0 out_1 = some r → LWp Pg 58 0 i19_L1 ⟨[(0, sl TVars.c l), (2, .ptr 0 0), (3, .bad), (4, .ptr 1 0), (5, .int .i64 i), (6, .bad), (7, .bad), (12, .bad), (21, .bad), (31, .bad), (55, .bad)], [], [(0, .box [.nil, .nil]), (1, .box [sl cs out_0, sl (ci .i64) out_1])], 2⟩ (blockQ 0 (seqQ Pg 58 0 (.seq (.seq (.reg none i19_R12) (.cond (.t 55) (.seq (.reg none i19_R13) .ret) .skip)) (.seq (.reg none i19_R14) .ret)) (qf_19 r)))) (h : m_ref09_Of_k1 rec_m_ref09_Of_l1 i out_0_2 out_1_2 = some r) : Wp Pg 58 0 (.reg none i19_R11) ⟨[(0, sl TVars.c l), (2, .ptr 0 0), (3, .bad), (4, .ptr 1 0), (5, .int .i64 i), (6, .bad), (7, .bad), (12, .bad), (21, .bad), (31, .bad), (55, .bad)], [], [(0, .box [.nil, .nil]), (1, .box [sl cs out_0_2, sl (ci .i64) out_1_2])], 2⟩ (loopQ Pg 58 0 i19_L1 (blockQ 0 (seqQ Pg 58 0 (.seq (.seq (.reg none i19_R12) (.cond (.t 55) (.seq (.reg none i19_R13) .ret) .skip)) (.seq (.reg none i19_R14) .ret)) (qf_19 r)))) := by
  unfold m_ref09_Of_k1 at h
  refine regP (loopN ?_)
  exact jumpL [] (hrec_m_ref09_Of_l1 h)
theorem w_m_ref09_Of_l2_B {l : (List TVars)} {i : Int} {r : (TVars × Int)} {rec_m_ref09_Of_l1 : Int → (List ByteArray) → (List Int) → Option (TVars × Int)} (hrec_m_ref09_Of_l1 : ∀ {i : Int} {out_0 : (List ByteArray)} {out_1 : (List Int)}, rec_m_ref09_Of_l1 i out_0 out_1 = some r → LWp Pg 58 0 i19_L1 ⟨[(0, sl TVars.c l), (2, .ptr 0 0), (3, .bad), (4, .ptr 1 0), (5, .int .i64 i), (6, .bad), (7, .bad), (12, .bad), (21, .bad), (31, .bad), (55, .bad)], [], [(0, .box [.nil, .nil]), (1, .box [sl cs out_0, sl (ci .i64) out_1])], 2⟩ (blockQ 0 (seqQ Pg 58 0 (.seq (.seq (.reg none i19_R12) (.cond (.t 55) (.seq (.reg none i19_R13) .ret) .skip)) (.seq (.reg none i19_R14) .ret)) (qf_19 r)))) {rec_m_ref09_Of_l2 : Int → (List ByteArray) → (List Int) → Option (TVars × Int)} (hrec_m_ref09_Of_l2 : ∀ {k : Int} {out_0_1 : (List ByteArray)} {out_1_1 : (List Int)}, rec_m_ref09_Of_l2 k out_0_1 out_1_1 = some r → LWp Pg 58 0 i19_L0 ⟨[(0, sl TVars.c l), (2, .ptr 0 0), (3, .bad), (4, .ptr 1 0), (5, .int .i64 i), (6, .bad), (7, .int .i64 k), (12, .bad), (21, .bad), (31, .bad), (55, .bad)], [], [(0, .box [.nil, .nil]), (1, .box [sl cs out_0_1, sl (ci .i64) out_1_1])], 2⟩ (blockQ 2 (blockQ 1 (seqQ Pg 58 0 (.reg none i19_R11) (loopQ Pg 58 0 i19_L1 (blockQ 0 (seqQ Pg 58 0 (.seq (.seq (.reg none i19_R12) (.cond (.t 55) (.seq (.reg none i19_R13) .ret) .skip)) (.seq (.reg none i19_R14) .ret)) (qf_19 r)))))))) {k : Int} {out_0_1 : (List ByteArray)} {out_1_1 : (List Int)} (h : m_ref09_Of_l2_B rec_m_ref09_Of_l1 l i rec_m_ref09_Of_l2 k out_0_1 out_1_1 = some r) : LWp Pg 58 0 i19_L0 ⟨[(0, sl TVars.c l), (2, .ptr 0 0), (3, .bad), (4, .ptr 1 0), (5, .int .i64 i), (6, .bad), (7, .int .i64 k), (12, .bad), (21, .bad), (31, .bad), (55, .bad)], [], [(0, .box [.nil, .nil]), (1, .box [sl cs out_0_1, sl (ci .i64) out_1_1])], 2⟩ (blockQ 2 (blockQ 1 (seqQ Pg 58 0 (.reg none i19_R11) (loopQ Pg 58 0 i19_L1 (blockQ 0 (seqQ Pg 58 0 (.seq (.seq (.reg none i19_R12) (.cond (.t 55) (.seq (.reg none i19_R13) .ret) .skip)) (.seq (.reg none i19_R14) .ret)) (qf_19 r))))))) := by
  unfold m_ref09_Of_l2_B at h
  refine LWp.stepC i19_L0.eq_1 ?_
  refine Wp.seq (Wp.seq ?_)
  replace h := bndS h; obtain ⟨e_1, g5, h⟩ := h
  refine regP (seqN ?_)
  replace h := ifS h; rcases h with ⟨g6, h⟩ | ⟨g6, h⟩
  · refine condTP (Wp.skip (seqN (Wp.seq (Wp.block ?_))))
    replace h := bndS h; obtain ⟨e_2, g7, h⟩ := h
    replace h := bndS h; obtain ⟨e_3, g8, h⟩ := h
    replace h := bndS h; obtain ⟨r0_1, g9, h⟩ := h
    refine drawP mixed (tab_cons (w_m_ref09_put g9) (tab_nil _)) (blockN (seqN ?_))
    refine regP (loopN ?_)
    exact jumpL [.kill [31], .tidy] (hrec_m_ref09_Of_l2 h)
  · refine condFP (Wp.out (seqO (loopO (blockO (blockN (seqN ?_))))))
    exact jumpK [.kill [7, 31]] (w_m_ref09_Of_k1 (l := l) hrec_m_ref09_Of_l1 h)
theorem w_m_ref09_Of_l2 {l : (List TVars)} {i : Int} {r : (TVars × Int)} {rec_m_ref09_Of_l1 : Int → (List ByteArray) → (List Int) → Option (TVars × Int)} (hrec_m_ref09_Of_l1 : ∀ {i : Int} {out_0 : (List ByteArray)} {out_1 : (List Int)}, rec_m_ref09_Of_l1 i out_0 out_1 = some r → LWp Pg 58 0 i19_L1 ⟨[(0, sl TVars.c l), (2, .ptr 0 0), (3, .bad), (4, .ptr 1 0), (5, .int .i64 i), (6, .bad), (7, .bad), (12, .bad), (21, .bad), (31, .bad), (55, .bad)], [], [(0, .box [.nil, .nil]), (1, .box [sl cs out_0, sl (ci .i64) out_1])], 2⟩ (blockQ 0 (seqQ Pg 58 0 (.seq (.seq (.reg none i19_R12) (.cond (.t 55) (.seq (.reg none i19_R13) .ret) .skip)) (.seq (.reg none i19_R14) .ret)) (qf_19 r)))) : ∀ (n : Nat) {k : Int} {out_0_1 : (List ByteArray)} {out_1_1 : (List Int)}, m_ref09_Of_l2 rec_m_ref09_Of_l1 l i n k out_0_1 out_1_1 = some r → LWp Pg 58 0 i19_L0 ⟨[(0, sl TVars.c l), (2, .ptr 0 0), (3, .bad), (4, .ptr 1 0), (5, .int .i64 i), (6, .bad), (7, .int .i64 k), (12, .bad), (21, .bad), (31, .bad), (55, .bad)], [], [(0, .box [.nil, .nil]), (1, .box [sl cs out_0_1, sl (ci .i64) out_1_1])], 2⟩ (blockQ 2 (blockQ 1 (seqQ Pg 58 0 (.reg none i19_R11) (loopQ Pg 58 0 i19_L1 (blockQ 0 (seqQ Pg 58 0 (.seq (.seq (.reg none i19_R12) (.cond (.t 55) (.seq (.reg none i19_R13) .ret) .skip)) (.seq (.reg none i19_R14) .ret)) (qf_19 r))))))) := by
  intro n
  induction n with
  | zero => intro k out_0_1 out_1_1 h; unfold m_ref09_Of_l2 at h; cases h
  | succ n ih => intro k out_0_1 out_1_1 h; unfold m_ref09_Of_l2 at h; exact w_m_ref09_Of_l2_B hrec_m_ref09_Of_l1 ih h
theorem w_m_ref09_Of_l1_B {l : (List TVars)} {r : (TVars × Int)}   {rec_m_ref09_Of_l1 : Int → (List ByteArray) → (List Int) → Option (TVars × Int)} (hrec_m_ref09_Of_l1 : ∀ {i : Int} {out_0 : (List ByteArray)} {out_1 : (List Int)}, rec_m_ref09_Of_l1 i out_0 out_1 = some r → LWp Pg 58 0 i19_L1 ⟨[(0, sl TVars.c l), (2, .ptr 0 0), (3, .bad), (4, .ptr 1 0), (5, .int .i64 i), (6, .bad), (7, .bad), (12, .bad), (21, .bad), (31, .bad), (55, .bad)], [], [(0, .box [.nil, .nil]), (1, .box [sl cs out_0, sl (ci .i64) out_1])], 2⟩ (blockQ 0 (seqQ Pg 58 0 (.seq (.seq (.reg none i19_R12) (.cond (.t 55) (.seq (.reg none i19_R13) .ret) .skip)) (.seq (.reg none i19_R14) .ret)) (qf_19 r)))) {i : Int} {out_0 : (List ByteArray)} {out_1 : (List Int)} (h : m_ref09_Of_l1_B  l rec_m_ref09_Of_l1 i out_0 out_1 = some r) : LWp Pg 58 0 i19_L1 ⟨[(0, sl TVars.c l), (2, .ptr 0 0), (3, .bad), (4, .ptr 1 0), (5, .int .i64 i), (6, .bad), (7, .bad), (12, .bad), (21, .bad), (31, .bad), (55, .bad)], [], [(0, .box [.nil, .nil]), (1, .box [sl cs out_0, sl (ci .i64) out_1])], 2⟩ (blockQ 0 (seqQ Pg 58 0 (.seq (.seq (.reg none i19_R12) (.cond (.t 55) (.seq (.reg none i19_R13) .ret) .skip)) (.seq (.reg none i19_R14) .ret)) (qf_19 r))) := by
  unfold m_ref09_Of_l1_B at h
  refine LWp.stepC i19_L1.eq_1 ?_
  refine Wp.seq (Wp.seq (regP (seqN ?_)))
  replace h := ifS h; rcases h with ⟨g1, h⟩ | ⟨g1, h⟩
  · refine condTP (Wp.skip (seqN (Wp.seq (Wp.block (Wp.seq (Wp.seq (Wp.reg ?_)))))))
    replace h := bndS h; obtain ⟨e, g2, h⟩ := h
    replace h := bndS h; obtain ⟨r0, g3, h⟩ := h
    refine chunkT 5 (tab_cons (w_m_ref09_Check g3) (tab_nil _)) ?_
    refine lastT (tab_nil _) (seqN (Wp.seq ?_))
    refine regP (seqN ?_)
    replace h := ifS h; rcases h with ⟨g4, h⟩ | ⟨g4, h⟩
    · replace h := retS h; subst h
      refine condTP (Wp.seq ?_)
      refine regP (seqN ?_)
      refine weakP [.cell 2 0 .frz, .cell 2 1 .frz] (Wp.ret (seqR (blockR (seqR (loopR (blockR (seqR ?_)))))))
      exact finP
    · refine condFP (Wp.skip (seqN (Wp.seq ?_)))
      refine regP (seqN (Wp.block (Wp.loop ?_)))
      exact jumpL [.kill [6, 12, 21]] (w_m_ref09_Of_l2 hrec_m_ref09_Of_l1 _ h)
  · refine condFP (Wp.out (seqO (loopO (blockO (seqN ?_)))))
    exact jumpK [.kill [0, 5, 12]] (w_m_ref09_Of_k2 h)
theorem w_m_ref09_Of_l1 {l : (List TVars)} {r : (TVars × Int)}   : ∀ (n : Nat) {i : Int} {out_0 : (List ByteArray)} {out_1 : (List Int)}, m_ref09_Of_l1  l n i out_0 out_1 = some r → LWp Pg 58 0 i19_L1 ⟨[(0, sl TVars.c l), (2, .ptr 0 0), (3, .bad), (4, .ptr 1 0), (5, .int .i64 i), (6, .bad), (7, .bad), (12, .bad), (21, .bad), (31, .bad), (55, .bad)], [], [(0, .box [.nil, .nil]), (1, .box [sl cs out_0, sl (ci .i64) out_1])], 2⟩ (blockQ 0 (seqQ Pg 58 0 (.seq (.seq (.reg none i19_R12) (.cond (.t 55) (.seq (.reg none i19_R13) .ret) .skip)) (.seq (.reg none i19_R14) .ret)) (qf_19 r))) := by
  intro n
  induction n with
  | zero => intro i out_0 out_1 h; unfold m_ref09_Of_l1 at h; cases h
  | succ n ih => intro i out_0 out_1 h; unfold m_ref09_Of_l1 at h; exact w_m_ref09_Of_l1_B  ih h
theorem w_m_ref09_Of {l : (List TVars)} {r : (TVars × Int)}   (h : m_ref09_Of l = some r) : Spec Pg 19 [sl TVars.c l] [] 0 (.tup [.agg [sl cs r.1.Names, sl (ci .i64) r.1.Vals], .int .i64 r.2]) [] 0 := by
  refine Spec.intro Go.Proofs.Try.func19 i19_ok (le_of_ble rfl) ?_
  show Wp Pg 58 0 i19_B ⟨argEnv [sl TVars.c l] i19_V, [], [], 0⟩ (qf_19 r)
  unfold m_ref09_Of at h
  unfold i19_B
  refine weakP [] ?_
  refine Wp.seq (regP (seqN (Wp.seq ?_)))
  refine regP (seqN (Wp.seq (Wp.seq ?_)))
  refine regP (seqN (Wp.block (Wp.loop ?_)))
  exact jumpL [.kill [3, 6, 7, 12, 21, 31, 55], .cell 4 0 .frz, .cell 4 1 .frz, .tidy] (w_m_ref09_Of_l1 _ h)
/-! funicular/funicularref09.One -/
noncomputable abbrev qf_20 (r : TVars) : Ex → St → Prop := FinQ 0 [.cell 4 true 2] (.agg [sl cs r.Names, sl (ci .i64) r.Vals]) [] 0
theorem w_m_ref09_One {name : ByteArray} {n0 : Int} {r : TVars}   (h : m_ref09_One name n0 = some r) : Spec Pg 20 [.str name, .int .i64 n0] [] 0 (.agg [sl cs r.Names, sl (ci .i64) r.Vals]) [] 0 := by
  refine Spec.intro Go.Proofs.Try.func20 i20_ok (le_of_ble rfl) ?_
  show Wp Pg 10 0 i20_B ⟨argEnv [.str name, .int .i64 n0] i20_V, [], [], 0⟩ (qf_20 r)
  unfold m_ref09_One at h
  unfold i20_B
  refine weakP [] ?_
  replace h := retS h; subst h
  refine Wp.seq (regP (seqN (Wp.seq ?_)))
  refine regP (seqN ?_)
  refine weakP [.cell 4 0 .frz, .cell 4 1 .frz] (Wp.ret ?_)
  exact finP
/-! funicular/funicularref08.collect -/
noncomputable abbrev qf_37 (r : (List ByteArray)) : Ex → St → Prop := FinQ 0 [.tmp 2] (sl cs r) [] 0
theorem w_m_ref08_collect_l1_B {x0 : TExpr} {r : (List ByteArray)} {rec_m_ref08_collect : TExpr → Option (List ByteArray)} (hrec_m_ref08_collect : ∀ {x0 : TExpr} {r : (List ByteArray)}, rec_m_ref08_collect x0 = some r → Spec Pg 37 [.agg [.int .i64 x0.Kind, .int .i64 x0.N, .str x0.Name, sl TExpr.c x0.Kids]] [] 0 (sl cs r) [] 0) {rec_m_ref08_collect_l1 : Int → (List ByteArray) → Option (List ByteArray)} (hrec_m_ref08_collect_l1 : ∀ {i : Int} {l : (List ByteArray)}, rec_m_ref08_collect_l1 i l = some r → LWp Pg 27 0 i37_L0 ⟨[(0, .bad), (1, .ptr 0 0), (2, .bad), (3, .own 1 1 0 l.length false), (4, .int .i64 i), (7, .bad), (15, .bad)], [], [(0, .box [.int .i64 x0.Kind, .int .i64 x0.N, .str x0.Name, sl TExpr.c x0.Kids]), (1, .arr 1 (List.map cs l) 0)], 2⟩ (blockQ 0 (seqQ Pg 27 0 (.seq (.reg none i37_R8) .ret) (qf_37 r)))) {i : Int} {l : (List ByteArray)} (h : m_ref08_collect_l1_B rec_m_ref08_collect x0 rec_m_ref08_collect_l1 i l = some r) : LWp Pg 27 0 i37_L0 ⟨[(0, .bad), (1, .ptr 0 0), (2, .bad), (3, .own 1 1 0 l.length false), (4, .int .i64 i), (7, .bad), (15, .bad)], [], [(0, .box [.int .i64 x0.Kind, .int .i64 x0.N, .str x0.Name, sl TExpr.c x0.Kids]), (1, .arr 1 (List.map cs l) 0)], 2⟩ (blockQ 0 (seqQ Pg 27 0 (.seq (.reg none i37_R8) .ret) (qf_37 r))) := by
  unfold m_ref08_collect_l1_B at h
  refine LWp.stepC i37_L0.eq_1 ?_
  refine Wp.seq (Wp.seq (regP (seqN ?_)))
  replace h := ifS h; rcases h with ⟨g2, h⟩ | ⟨g2, h⟩
  · refine condTP (Wp.skip (seqN (Wp.seq (Wp.block (Wp.reg ?_)))))
    replace h := bndS h; obtain ⟨e, g3, h⟩ := h
    replace h := bndS h; obtain ⟨r0, g4, h⟩ := h
    refine chunkT 7 (tab_cons (hrec_m_ref08_collect g4) (tab_nil _)) ?_
    replace h := reqS h; obtain ⟨g5, h⟩ := h
    refine lastT (tab_nil _) (blockN (seqN ?_))
    refine regP (loopN ?_)
    exact jumpL [.kill [15], .tidy] (hrec_m_ref08_collect_l1 h)
  · replace h := retS h; subst h
    refine condFP (Wp.out (seqO (loopO (blockO (seqN (Wp.seq ?_))))))
    refine regP (seqN ?_)
    refine weakP [.at 2 .frz] (Wp.ret ?_)
    exact finP
theorem w_m_ref08_collect_l1 {x0 : TExpr} {r : (List ByteArray)} {rec_m_ref08_collect : TExpr → Option (List ByteArray)} (hrec_m_ref08_collect : ∀ {x0 : TExpr} {r : (List ByteArray)}, rec_m_ref08_collect x0 = some r → Spec Pg 37 [.agg [.int .i64 x0.Kind, .int .i64 x0.N, .str x0.Name, sl TExpr.c x0.Kids]] [] 0 (sl cs r) [] 0) : ∀ (n : Nat) {i : Int} {l : (List ByteArray)}, m_ref08_collect_l1 rec_m_ref08_collect x0 n i l = some r → LWp Pg 27 0 i37_L0 ⟨[(0, .bad), (1, .ptr 0 0), (2, .bad), (3, .own 1 1 0 l.length false), (4, .int .i64 i), (7, .bad), (15, .bad)], [], [(0, .box [.int .i64 x0.Kind, .int .i64 x0.N, .str x0.Name, sl TExpr.c x0.Kids]), (1, .arr 1 (List.map cs l) 0)], 2⟩ (blockQ 0 (seqQ Pg 27 0 (.seq (.reg none i37_R8) .ret) (qf_37 r))) := by
  intro n
  induction n with
  | zero => intro i l h; unfold m_ref08_collect_l1 at h; cases h
  | succ n ih => intro i l h; unfold m_ref08_collect_l1 at h; exact w_m_ref08_collect_l1_B hrec_m_ref08_collect ih h
theorem w_m_ref08_collect_B {x0 : TExpr} {r : (List ByteArray)} {rec_m_ref08_collect : TExpr → Option (List ByteArray)} (hrec_m_ref08_collect : ∀ {x0 : TExpr} {r : (List ByteArray)}, rec_m_ref08_collect x0 = some r → Spec Pg 37 [.agg [.int .i64 x0.Kind, .int .i64 x0.N, .str x0.Name, sl TExpr.c x0.Kids]] [] 0 (sl cs r) [] 0) (h : m_ref08_collect_B rec_m_ref08_collect x0 = some r) : Spec Pg 37 [.agg [.int .i64 x0.Kind, .int .i64 x0.N, .str x0.Name, sl TExpr.c x0.Kids]] [] 0 (sl cs r) [] 0 := by
  refine Spec.intro Go.Proofs.Try.func37 i37_ok (le_of_ble rfl) ?_
  show Wp Pg 27 0 i37_B ⟨argEnv [.agg [.int .i64 x0.Kind, .int .i64 x0.N, .str x0.Name, sl TExpr.c x0.Kids]] i37_V, [], [], 0⟩ (qf_37 r)
  unfold m_ref08_collect_B at h
  unfold i37_B
  refine weakP [] ?_
  refine Wp.seq (regP (seqN (Wp.seq (Wp.seq ?_))))
  refine regP (seqN ?_)
  replace h := ifS h; rcases h with ⟨g1, h⟩ | ⟨g1, h⟩
  · replace h := retS h; subst h
    refine condTP (Wp.seq ?_)
    refine regP (seqN ?_)
    refine weakP [.at 2 .frz] (Wp.ret (seqR ?_))
    exact finP
  · refine condFP (Wp.skip (seqN (Wp.seq ?_)))
    refine regP (seqN (Wp.seq (Wp.seq ?_)))
    refine regP (seqN (Wp.block (Wp.loop ?_)))
    exact jumpL [.kill [0, 2, 7, 15], .at 3 (.virt 1), .tidy] (w_m_ref08_collect_l1 hrec_m_ref08_collect _ h)
theorem w_m_ref08_collect : ∀ (n : Nat) {x0 : TExpr} {r : (List ByteArray)}, m_ref08_collect n x0 = some r → Spec Pg 37 [.agg [.int .i64 x0.Kind, .int .i64 x0.N, .str x0.Name, sl TExpr.c x0.Kids]] [] 0 (sl cs r) [] 0 := by
  intro n
  induction n with
  | zero => intro x0 r h; unfold m_ref08_collect at h; cases h
  | succ n ih => intro x0 r h; unfold m_ref08_collect at h; exact w_m_ref08_collect_B ih h
end Go.Proofs.Ytcmejocmohohpaa.R
