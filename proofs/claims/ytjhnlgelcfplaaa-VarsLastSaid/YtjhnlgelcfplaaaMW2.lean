/- The program's functions answer what the models answer: 2. -/
import Derived.Test.YtjhnlgelcfplaaaMW0
import Derived.Test.YtjhnlgelcfplaaaMW1
set_option maxRecDepth 100000
set_option linter.unusedVariables false
set_option linter.unusedSimpArgs false
set_option linter.defProp false
noncomputable section
namespace Go.Proofs.Ytjhnlgelcfplaaa.R
open Go Nat
/-! funicular/funicularref09.Same -/
noncomputable abbrev qf_17 (r : Bool) : Ex → St → Prop := FinQ 0 [.tmp 4] (.bool r) [] 0
theorem w_m_ref09_Same_l1_B {a : TVars} {b : TVars} {r : Bool}   {rec_m_ref09_Same_l1 : Int → Option Bool} (hrec_m_ref09_Same_l1 : ∀ {i : Int}, rec_m_ref09_Same_l1 i = some r → LWp Pg 39 0 i17_L0 ⟨[(0, .bad), (1, .bad), (2, .ptr 0 0), (3, .ptr 1 0), (4, .bad), (5, .int .i64 i), (20, .bad), (25, .bad), (38, .bad)], [], [(0, .box [sl cs a.Names, sl (ci .i64) a.Vals]), (1, .box [sl cs b.Names, sl (ci .i64) b.Vals])], 2⟩ (blockQ 0 (seqQ Pg 39 0 (.seq (.reg none i17_R8) .ret) (qf_17 r)))) {i : Int} (h : m_ref09_Same_l1_B  a b rec_m_ref09_Same_l1 i = some r) : LWp Pg 39 0 i17_L0 ⟨[(0, .bad), (1, .bad), (2, .ptr 0 0), (3, .ptr 1 0), (4, .bad), (5, .int .i64 i), (20, .bad), (25, .bad), (38, .bad)], [], [(0, .box [sl cs a.Names, sl (ci .i64) a.Vals]), (1, .box [sl cs b.Names, sl (ci .i64) b.Vals])], 2⟩ (blockQ 0 (seqQ Pg 39 0 (.seq (.reg none i17_R8) .ret) (qf_17 r))) := by
  unfold m_ref09_Same_l1_B at h
  refine LWp.stepC i17_L0.eq_1 ?_
  refine Wp.seq (Wp.seq (regP (seqN ?_)))
  replace h := ifS h; rcases h with ⟨g4, h⟩ | ⟨g4, h⟩
  · refine condTP (Wp.skip (seqN (Wp.seq (Wp.block (Wp.seq ?_)))))
    replace h := bndS h; obtain ⟨e, g5, h⟩ := h
    replace h := bndS h; obtain ⟨e_1, g6, h⟩ := h
    refine drawP [] mixed (clsN _) (seqN ?_)
    replace h := ifS h; rcases h with ⟨g7, h⟩ | ⟨g7, h⟩
    · replace h := retS h; subst h
      refine condTP (Wp.seq ?_)
      refine regP (seqN (Wp.ret (blockR (seqR (loopR (blockR (seqR ?_)))))))
      exact finP
    · refine condFP (Wp.skip (blockN (seqN ?_)))
      refine regP (loopN ?_)
      exact jumpL [.kill [25, 38], .tidy] (hrec_m_ref09_Same_l1 h)
  · replace h := retS h; subst h
    refine condFP (Wp.out (seqO (loopO (blockO (seqN (Wp.seq ?_))))))
    refine regP (seqN (Wp.ret ?_))
    exact finP
theorem w_m_ref09_Same_l1 {a : TVars} {b : TVars} {r : Bool}   : ∀ (n : Nat) {i : Int}, m_ref09_Same_l1  a b n i = some r → LWp Pg 39 0 i17_L0 ⟨[(0, .bad), (1, .bad), (2, .ptr 0 0), (3, .ptr 1 0), (4, .bad), (5, .int .i64 i), (20, .bad), (25, .bad), (38, .bad)], [], [(0, .box [sl cs a.Names, sl (ci .i64) a.Vals]), (1, .box [sl cs b.Names, sl (ci .i64) b.Vals])], 2⟩ (blockQ 0 (seqQ Pg 39 0 (.seq (.reg none i17_R8) .ret) (qf_17 r))) := by
  intro n
  induction n with
  | zero => intro i h; unfold m_ref09_Same_l1 at h; cases h
  | succ n ih => intro i h; unfold m_ref09_Same_l1 at h; exact w_m_ref09_Same_l1_B  ih h
theorem w_m_ref09_Same_k1 {a : TVars} {b : TVars} {v20 : Bool} {r : Bool}   (h : m_ref09_Same_k1 a b v20 = some r) : Wp Pg 39 0 (.cond (.t 20) (.seq (.reg none i17_R2) .ret) .skip) ⟨[(0, .bad), (1, .bad), (2, .ptr 0 0), (3, .ptr 1 0), (4, .bad), (5, .bad), (20, .bool v20), (25, .bad), (38, .bad)], [], [(0, .box [sl cs a.Names, sl (ci .i64) a.Vals]), (1, .box [sl cs b.Names, sl (ci .i64) b.Vals])], 2⟩ (seqQ Pg 39 0 (.seq (.seq (.reg none i17_R3) (.block 0 (.loop i17_L0))) (.seq (.reg none i17_R8) .ret)) (qf_17 r)) := by
  unfold m_ref09_Same_k1 at h
  replace h := ifS h; rcases h with ⟨g3, h⟩ | ⟨g3, h⟩
  · replace h := retS h; subst h
    refine condTP (Wp.seq ?_)
    refine regP (seqN (Wp.ret (seqR ?_)))
    exact finP
  · refine condFP (Wp.skip (seqN (Wp.seq (Wp.seq ?_))))
    refine regP (seqN (Wp.block (Wp.loop ?_)))
    exact jumpL [.kill [20]] (w_m_ref09_Same_l1 _ h)
theorem w_m_ref09_Same {a : TVars} {b : TVars} {r : Bool}   (h : m_ref09_Same a b = some r) : Spec Pg 17 [.agg [sl cs a.Names, sl (ci .i64) a.Vals], .agg [sl cs b.Names, sl (ci .i64) b.Vals]] [] 0 (.bool r) [] 0 := by
  refine Spec.intro Go.Proofs.Try.func17 i17_ok (le_of_ble rfl) ?_
  show Wp Pg 39 0 i17_B ⟨argEnv [.agg [sl cs a.Names, sl (ci .i64) a.Vals], .agg [sl cs b.Names, sl (ci .i64) b.Vals]] i17_V, [], [], 0⟩ (qf_17 r)
  unfold m_ref09_Same at h
  unfold i17_B
  refine weakP [] ?_
  refine Wp.seq (regP (seqN (Wp.seq (Wp.seq (Wp.reg ?_)))))
  replace h := bndS h; obtain ⟨r0, g1, h⟩ := h
  refine chunkT 5 (tab_cons (w_m_ref08_Texts g1) (tab_nil _)) ?_
  replace h := ifS h; rcases h with ⟨g2, h⟩ | ⟨g2, h⟩
  · refine lastT (tab_nil _) (seqN ?_)
    exact jumpK [.kill [0, 1, 4, 5, 25, 38], .tidy] (w_m_ref09_Same_k1 h)
  · refine lastT (tab_nil _) (seqN ?_)
    exact jumpK [.kill [0, 1, 4, 5, 25, 38], .tidy] (w_m_ref09_Same_k1 h)
/-! slices.BinarySearch[[]string,string] -/
noncomputable abbrev qf_67 (r : (Int × Bool)) : Ex → St → Prop := FinQ 0 [.tmp 4, .tmp 5] (.tup [.int .i64 r.1, .bool r.2]) [] 0
theorem w_m_slices_BinarySearch_string_string_k1 {x0 : (List ByteArray)} {target : ByteArray} {i_1 : Int} {r : (Int × Bool)}   (h : m_slices_BinarySearch_string_string_k1 x0 target i_1 = some r) : Wp Pg 54 0 (.seq (.reg none i67_R8) .ret) ⟨[(0, sl cs x0), (1, .str target), (4, .bad), (5, .bad), (6, .int .i64 (x0.length : Int)), (7, .int .i64 i_1), (8, .bad), (9, .bad), (15, .bad), (27, .bad)], [], [], 0⟩ (qf_67 r) := by
  unfold m_slices_BinarySearch_string_string_k1 at h
  refine Wp.seq (Wp.reg ?_)
  replace h := ifS h; rcases h with ⟨g5, h⟩ | ⟨g5, h⟩
  · replace h := bndS h; obtain ⟨e_1, g6, h⟩ := h
    replace h := ifS h; rcases h with ⟨g7, h⟩ | ⟨g7, h⟩
    · replace h := retS h; subst h
      refine lastT (tab_nil _) (seqN (Wp.ret ?_))
      exact finP
    · replace h := bndS h; obtain ⟨r0_1, g8, h⟩ := h
      refine chunkT 17 (tab_cons (w_m_slices_isNaN_string g8) (tab_nil _)) ?_
      replace h := ifS h; rcases h with ⟨g9, h⟩ | ⟨g9, h⟩
      · replace h := bndS h; obtain ⟨r0_2, g10, h⟩ := h
        replace h := retS h; subst h
        refine chunkT 3 (tab_cons (w_m_slices_isNaN_string g10) (tab_nil _)) ?_
        refine lastT (tab_nil _) (seqN (Wp.ret ?_))
        exact finP
      · replace h := retS h; subst h
        refine lastT (tab_nil _) (seqN (Wp.ret ?_))
        exact finP
  · replace h := retS h; subst h
    refine lastT (tab_nil _) (seqN (Wp.ret ?_))
    exact finP
theorem w_m_slices_BinarySearch_string_string_l1_B {x0 : (List ByteArray)} {target : ByteArray} {r : (Int × Bool)}   {rec_m_slices_BinarySearch_string_string_l1 : Int → Int → Option (Int × Bool)} (hrec_m_slices_BinarySearch_string_string_l1 : ∀ {i : Int} {j : Int}, rec_m_slices_BinarySearch_string_string_l1 i j = some r → LWp Pg 54 0 i67_L0 ⟨[(0, sl cs x0), (1, .str target), (4, .bad), (5, .bad), (6, .int .i64 (x0.length : Int)), (7, .int .i64 i), (8, .int .i64 j), (9, .bad), (15, .bad), (27, .bad)], [], [], 0⟩ (blockQ 0 (seqQ Pg 54 0 (.seq (.reg none i67_R8) .ret) (qf_67 r)))) {i : Int} {j : Int} (h : m_slices_BinarySearch_string_string_l1_B  x0 target rec_m_slices_BinarySearch_string_string_l1 i j = some r) : LWp Pg 54 0 i67_L0 ⟨[(0, sl cs x0), (1, .str target), (4, .bad), (5, .bad), (6, .int .i64 (x0.length : Int)), (7, .int .i64 i), (8, .int .i64 j), (9, .bad), (15, .bad), (27, .bad)], [], [], 0⟩ (blockQ 0 (seqQ Pg 54 0 (.seq (.reg none i67_R8) .ret) (qf_67 r))) := by
  unfold m_slices_BinarySearch_string_string_l1_B at h
  refine LWp.stepC i67_L0.eq_1 ?_
  refine Wp.seq (Wp.seq (regP (seqN ?_)))
  replace h := ifS h; rcases h with ⟨g1, h⟩ | ⟨g1, h⟩
  · refine condTP (Wp.skip (seqN (Wp.block (Wp.seq ?_))))
    refine regP (seqN (Wp.seq (Wp.reg ?_)))
    replace h := bndS h; obtain ⟨e, g2, h⟩ := h
    replace h := bndS h; obtain ⟨r0, g3, h⟩ := h
    refine lastT (tab_cons (w_m_cmp_Less_string g3) (tab_nil _)) (seqN ?_)
    replace h := ifS h; rcases h with ⟨g4, h⟩ | ⟨g4, h⟩
    · refine condTP ?_
      refine regP (blockN (loopN ?_))
      exact jumpL [.kill [9, 15, 27]] (hrec_m_slices_BinarySearch_string_string_l1 h)
    · refine condFP ?_
      refine regP (blockN (loopN ?_))
      exact jumpL [.kill [9, 15, 27]] (hrec_m_slices_BinarySearch_string_string_l1 h)
  · refine condFP (Wp.out (seqO (loopO (blockO (seqN ?_)))))
    exact jumpK [.kill [8, 15]] (w_m_slices_BinarySearch_string_string_k1 h)
theorem w_m_slices_BinarySearch_string_string_l1 {x0 : (List ByteArray)} {target : ByteArray} {r : (Int × Bool)}   : ∀ (n : Nat) {i : Int} {j : Int}, m_slices_BinarySearch_string_string_l1  x0 target n i j = some r → LWp Pg 54 0 i67_L0 ⟨[(0, sl cs x0), (1, .str target), (4, .bad), (5, .bad), (6, .int .i64 (x0.length : Int)), (7, .int .i64 i), (8, .int .i64 j), (9, .bad), (15, .bad), (27, .bad)], [], [], 0⟩ (blockQ 0 (seqQ Pg 54 0 (.seq (.reg none i67_R8) .ret) (qf_67 r))) := by
  intro n
  induction n with
  | zero => intro i j h; unfold m_slices_BinarySearch_string_string_l1 at h; cases h
  | succ n ih => intro i j h; unfold m_slices_BinarySearch_string_string_l1 at h; exact w_m_slices_BinarySearch_string_string_l1_B  ih h
theorem w_m_slices_BinarySearch_string_string {x0 : (List ByteArray)} {target : ByteArray} {r : (Int × Bool)}   (h : m_slices_BinarySearch_string_string x0 target = some r) : Spec Pg 67 [sl cs x0, .str target] [] 0 (.tup [.int .i64 r.1, .bool r.2]) [] 0 := by
  refine Spec.intro Go.Proofs.Try.func67 i67_ok (le_of_ble rfl) ?_
  show Wp Pg 54 0 i67_B ⟨argEnv [sl cs x0, .str target] i67_V, [], [], 0⟩ (qf_67 r)
  unfold m_slices_BinarySearch_string_string at h
  unfold i67_B
  refine weakP [] ?_
  refine Wp.seq (regP (seqN (Wp.seq ?_)))
  refine regP (seqN (Wp.seq ?_))
  refine regP (seqN (Wp.seq (Wp.block (Wp.loop ?_))))
  exact jumpL [.kill [4, 5, 9, 15, 27]] (w_m_slices_BinarySearch_string_string_l1 _ h)
/-! funicular/vars.Of -/
noncomputable abbrev qf_22 (r : (TVars × Int)) : Ex → St → Prop := FinQ 0 [.cell 2 true 2, .tmp 3] (.tup [.agg [sl cs r.1.Names, sl (ci .i64) r.1.Vals], .int .i64 r.2]) [] 0
theorem w_m_vars_Of_k1 {out_0_2 : (List ByteArray)} {out_1_2 : (List Int)} {r : (TVars × Int)}   (h : m_vars_Of_k1 out_0_2 out_1_2 = some r) : Wp Pg 75 0 (.seq (.seq (.reg none i22_R18) (.cond (.t 72) (.seq (.reg none i22_R19) .ret) .skip)) (.seq (.reg none i22_R20) .ret)) ⟨[(0, .bad), (2, .ptr 0 0), (3, .bad), (4, .ptr 1 0), (6, .bad), (7, .bad), (8, .bad), (9, .bad), (10, .bad), (11, .bad), (12, .bad), (13, .bad), (14, .bad), (15, .bad), (21, .bad), (25, .bad), (26, .bad), (27, .bad), (28, .bad), (39, .bad), (72, .bad)], [], [(0, .box [.nil, .nil]), (1, .box [.own 1 2 0 out_0_2.length false, .own 1 3 0 out_1_2.length false]), (2, .arr 1 (List.map cs out_0_2) 0), (3, .arr 1 (List.map (ci .i64) out_1_2) 0)], 4⟩ (qf_22 r) := by
  unfold m_vars_Of_k1 at h
  refine Wp.seq (Wp.seq (regP (seqN ?_)))
  replace h := ifS h; rcases h with ⟨g17, h⟩ | ⟨g17, h⟩
  · replace h := retS h; subst h
    refine condTP (Wp.seq ?_)
    refine regP (seqN ?_)
    refine weakP [.cell 2 0 .frz, .cell 2 1 .frz] (Wp.ret (seqR ?_))
    exact finP
  · replace h := retS h; subst h
    refine condFP (Wp.skip (seqN (Wp.seq ?_)))
    refine regP (seqN ?_)
    refine weakP [.cell 2 0 .frz, .cell 2 1 .frz] (Wp.ret ?_)
    exact finP
theorem w_m_vars_Of_l2_B {l : (List TVars)} {v14 : Int} {e : TVars} {r : (TVars × Int)} {rec_m_vars_Of_l1 : Int → (List ByteArray) → (List Int) → Option (TVars × Int)} (hrec_m_vars_Of_l1 : ∀ {v14 : Int} {out_0 : (List ByteArray)} {out_1 : (List Int)}, rec_m_vars_Of_l1 v14 out_0 out_1 = some r → LWp Pg 75 0 i22_L1 ⟨[(0, .bad), (2, .ptr 0 0), (3, .bad), (4, .ptr 1 0), (6, .bad), (7, .bad), (8, .bad), (9, .bad), (10, .bad), (11, .bad), (12, sl TVars.c l), (13, .int .i64 (l.length : Int)), (14, .int .i64 v14), (15, .bad), (21, .bad), (25, .bad), (26, .bad), (27, .bad), (28, .bad), (39, .bad), (72, .bad)], [], [(0, .box [.nil, .nil]), (1, .box [.own 1 2 0 out_0.length false, .own 1 3 0 out_1.length false]), (2, .arr 1 (List.map cs out_0) 0), (3, .arr 1 (List.map (ci .i64) out_1) 0)], 4⟩ (blockQ 0 (seqQ Pg 75 0 (.seq (.seq (.reg none i22_R18) (.cond (.t 72) (.seq (.reg none i22_R19) .ret) .skip)) (.seq (.reg none i22_R20) .ret)) (qf_22 r)))) {rec_m_vars_Of_l2 : Int → (List ByteArray) → (List Int) → Option (TVars × Int)} (hrec_m_vars_Of_l2 : ∀ {v27 : Int} {out_0_1 : (List ByteArray)} {out_1_1 : (List Int)}, rec_m_vars_Of_l2 v27 out_0_1 out_1_1 = some r → LWp Pg 75 0 i22_L0 ⟨[(0, .bad), (2, .ptr 0 0), (3, .bad), (4, .ptr 1 0), (6, .ptr 4 0), (7, .bad), (8, .bad), (9, .bad), (10, .bad), (11, .bad), (12, sl TVars.c l), (13, .int .i64 (l.length : Int)), (14, .int .i64 v14), (15, .bad), (21, .bad), (25, sl cs e.Names), (26, .int .i64 (e.Names.length : Int)), (27, .int .i64 v27), (28, .bad), (39, .bad), (72, .bad)], [], [(0, .box [.nil, .nil]), (1, .box [.own 1 2 0 out_0_1.length false, .own 1 3 0 out_1_1.length false]), (2, .arr 1 (List.map cs out_0_1) 0), (3, .arr 1 (List.map (ci .i64) out_1_1) 0), (4, .box [sl cs e.Names, sl (ci .i64) e.Vals])], 5⟩ (blockQ 2 (blockQ 1 (seqQ Pg 75 0 (.reg none i22_R17) (loopQ Pg 75 0 i22_L1 (blockQ 0 (seqQ Pg 75 0 (.seq (.seq (.reg none i22_R18) (.cond (.t 72) (.seq (.reg none i22_R19) .ret) .skip)) (.seq (.reg none i22_R20) .ret)) (qf_22 r)))))))) {v27 : Int} {out_0_1 : (List ByteArray)} {out_1_1 : (List Int)} (h : m_vars_Of_l2_B rec_m_vars_Of_l1 v14 e rec_m_vars_Of_l2 v27 out_0_1 out_1_1 = some r) : LWp Pg 75 0 i22_L0 ⟨[(0, .bad), (2, .ptr 0 0), (3, .bad), (4, .ptr 1 0), (6, .ptr 4 0), (7, .bad), (8, .bad), (9, .bad), (10, .bad), (11, .bad), (12, sl TVars.c l), (13, .int .i64 (l.length : Int)), (14, .int .i64 v14), (15, .bad), (21, .bad), (25, sl cs e.Names), (26, .int .i64 (e.Names.length : Int)), (27, .int .i64 v27), (28, .bad), (39, .bad), (72, .bad)], [], [(0, .box [.nil, .nil]), (1, .box [.own 1 2 0 out_0_1.length false, .own 1 3 0 out_1_1.length false]), (2, .arr 1 (List.map cs out_0_1) 0), (3, .arr 1 (List.map (ci .i64) out_1_1) 0), (4, .box [sl cs e.Names, sl (ci .i64) e.Vals])], 5⟩ (blockQ 2 (blockQ 1 (seqQ Pg 75 0 (.reg none i22_R17) (loopQ Pg 75 0 i22_L1 (blockQ 0 (seqQ Pg 75 0 (.seq (.seq (.reg none i22_R18) (.cond (.t 72) (.seq (.reg none i22_R19) .ret) .skip)) (.seq (.reg none i22_R20) .ret)) (qf_22 r))))))) := by
  unfold m_vars_Of_l2_B at h
  refine LWp.stepC i22_L0.eq_1 ?_
  refine Wp.seq (regP (seqN (Wp.seq ?_)))
  replace h := ifS h; rcases h with ⟨g5, h⟩ | ⟨g5, h⟩
  · refine condTP (Wp.skip (seqN (Wp.seq (Wp.block (Wp.seq ?_)))))
    replace h := bndS h; obtain ⟨e_1, g6, h⟩ := h
    refine regP (seqN (Wp.seq (Wp.reg ?_)))
    replace h := bndS h; obtain ⟨r0_1, g7, h⟩ := h
    refine chunkT 4 (tab_cons (w_m_slices_BinarySearch_string_string g7) (tab_nil _)) ?_
    refine lastT (tab_nil _) (seqN (Wp.seq (Wp.seq ?_)))
    refine regP (seqN ?_)
    replace h := ifS h; rcases h with ⟨g8, h⟩ | ⟨g8, h⟩
    · refine condTP (Wp.seq ?_)
      replace h := bndS h; obtain ⟨e_2, g9, h⟩ := h
      replace h := bndS h; obtain ⟨e_3, g10, h⟩ := h
      have := ias_ownL (n := 1) (id := 3) (ex := false) (k := .i64) g10 rfl
      have := st_eptr (c := (ci .i64)) (y := e_2) (size := 1) (es := 1) (id := 3) (f := 0) (leak := 0) (H := [(0, .box [.nil, .nil]), (1, .box [.own 1 2 0 out_0_1.length false, .own 1 3 0 out_1_1.length false]), (2, .arr 1 (List.map cs out_0_1) 0), (3, .arr 1 (List.map (ci .i64) out_1_1) 0), (4, .box [sl cs e.Names, sl (ci .i64) e.Vals])]) (v := .int .i64 e_2) (vs := [.int .i64 e_2]) g10 rfl rfl rfl rfl rfl rfl (le_of_ble rfl) rfl rfl
      have := @setI_len
      refine drawP [] mixed (clsN _) (seqN (Wp.out (seqO (blockO (seqN ?_)))))
      refine regP (loopN ?_)
      exact jumpL [.kill [8, 9, 10, 11, 28, 39], .tidy] (hrec_m_vars_Of_l2 h)
    · refine condFP (Wp.skip (seqN (Wp.seq (Wp.reg ?_))))
      replace h := reqS h; obtain ⟨g11, h⟩ := h
      replace h := reqS h; obtain ⟨g12, h⟩ := h
      replace h := reqS h; obtain ⟨g13, h⟩ := h
      refine chunkF 6 (tab_cons (w_ins insOk (f := 68) rfl (c := cs) (l := out_0_1) (k := r0_1.1) (x := e_1) (xa := .str e_1) rfl g11 g12 g13 false) (tab_nil _)) ?_
      refine lastT (tab_nil _) (seqN ?_)
      replace h := bndS h; obtain ⟨e_4, g14, h⟩ := h
      replace h := reqS h; obtain ⟨g15, h⟩ := h
      replace h := reqS h; obtain ⟨g16, h⟩ := h
      refine drawP [69] mixed (clsC 9 (tab_cons (w_ins insOk (f := 69) rfl (c := (ci .i64)) (l := out_1_1) (k := r0_1.1) (x := e_4) (xa := .int .i64 e_4) rfl g11 g15 g16 false) (tab_nil _)) (clsN _)) (blockN (seqN ?_))
      refine regP (loopN ?_)
      exact jumpL [.kill [8, 9, 10, 11, 28, 39], .tidy] (hrec_m_vars_Of_l2 h)
  · refine condFP (Wp.out (seqO (loopO (blockO (blockN (seqN ?_))))))
    refine regP (loopN ?_)
    exact jumpL [.kill [6, 25, 26, 27, 28], .tidy] (hrec_m_vars_Of_l1 h)
theorem w_m_vars_Of_l2 {l : (List TVars)} {v14 : Int} {e : TVars} {r : (TVars × Int)} {rec_m_vars_Of_l1 : Int → (List ByteArray) → (List Int) → Option (TVars × Int)} (hrec_m_vars_Of_l1 : ∀ {v14 : Int} {out_0 : (List ByteArray)} {out_1 : (List Int)}, rec_m_vars_Of_l1 v14 out_0 out_1 = some r → LWp Pg 75 0 i22_L1 ⟨[(0, .bad), (2, .ptr 0 0), (3, .bad), (4, .ptr 1 0), (6, .bad), (7, .bad), (8, .bad), (9, .bad), (10, .bad), (11, .bad), (12, sl TVars.c l), (13, .int .i64 (l.length : Int)), (14, .int .i64 v14), (15, .bad), (21, .bad), (25, .bad), (26, .bad), (27, .bad), (28, .bad), (39, .bad), (72, .bad)], [], [(0, .box [.nil, .nil]), (1, .box [.own 1 2 0 out_0.length false, .own 1 3 0 out_1.length false]), (2, .arr 1 (List.map cs out_0) 0), (3, .arr 1 (List.map (ci .i64) out_1) 0)], 4⟩ (blockQ 0 (seqQ Pg 75 0 (.seq (.seq (.reg none i22_R18) (.cond (.t 72) (.seq (.reg none i22_R19) .ret) .skip)) (.seq (.reg none i22_R20) .ret)) (qf_22 r)))) : ∀ (n : Nat) {v27 : Int} {out_0_1 : (List ByteArray)} {out_1_1 : (List Int)}, m_vars_Of_l2 rec_m_vars_Of_l1 v14 e n v27 out_0_1 out_1_1 = some r → LWp Pg 75 0 i22_L0 ⟨[(0, .bad), (2, .ptr 0 0), (3, .bad), (4, .ptr 1 0), (6, .ptr 4 0), (7, .bad), (8, .bad), (9, .bad), (10, .bad), (11, .bad), (12, sl TVars.c l), (13, .int .i64 (l.length : Int)), (14, .int .i64 v14), (15, .bad), (21, .bad), (25, sl cs e.Names), (26, .int .i64 (e.Names.length : Int)), (27, .int .i64 v27), (28, .bad), (39, .bad), (72, .bad)], [], [(0, .box [.nil, .nil]), (1, .box [.own 1 2 0 out_0_1.length false, .own 1 3 0 out_1_1.length false]), (2, .arr 1 (List.map cs out_0_1) 0), (3, .arr 1 (List.map (ci .i64) out_1_1) 0), (4, .box [sl cs e.Names, sl (ci .i64) e.Vals])], 5⟩ (blockQ 2 (blockQ 1 (seqQ Pg 75 0 (.reg none i22_R17) (loopQ Pg 75 0 i22_L1 (blockQ 0 (seqQ Pg 75 0 (.seq (.seq (.reg none i22_R18) (.cond (.t 72) (.seq (.reg none i22_R19) .ret) .skip)) (.seq (.reg none i22_R20) .ret)) (qf_22 r))))))) := by
  intro n
  induction n with
  | zero => intro v27 out_0_1 out_1_1 h; unfold m_vars_Of_l2 at h; cases h
  | succ n ih => intro v27 out_0_1 out_1_1 h; unfold m_vars_Of_l2 at h; exact w_m_vars_Of_l2_B (l := l) hrec_m_vars_Of_l1 ih h
theorem w_m_vars_Of_l1_B {l : (List TVars)} {r : (TVars × Int)}   {rec_m_vars_Of_l1 : Int → (List ByteArray) → (List Int) → Option (TVars × Int)} (hrec_m_vars_Of_l1 : ∀ {v14 : Int} {out_0 : (List ByteArray)} {out_1 : (List Int)}, rec_m_vars_Of_l1 v14 out_0 out_1 = some r → LWp Pg 75 0 i22_L1 ⟨[(0, .bad), (2, .ptr 0 0), (3, .bad), (4, .ptr 1 0), (6, .bad), (7, .bad), (8, .bad), (9, .bad), (10, .bad), (11, .bad), (12, sl TVars.c l), (13, .int .i64 (l.length : Int)), (14, .int .i64 v14), (15, .bad), (21, .bad), (25, .bad), (26, .bad), (27, .bad), (28, .bad), (39, .bad), (72, .bad)], [], [(0, .box [.nil, .nil]), (1, .box [.own 1 2 0 out_0.length false, .own 1 3 0 out_1.length false]), (2, .arr 1 (List.map cs out_0) 0), (3, .arr 1 (List.map (ci .i64) out_1) 0)], 4⟩ (blockQ 0 (seqQ Pg 75 0 (.seq (.seq (.reg none i22_R18) (.cond (.t 72) (.seq (.reg none i22_R19) .ret) .skip)) (.seq (.reg none i22_R20) .ret)) (qf_22 r)))) {v14 : Int} {out_0 : (List ByteArray)} {out_1 : (List Int)} (h : m_vars_Of_l1_B  l rec_m_vars_Of_l1 v14 out_0 out_1 = some r) : LWp Pg 75 0 i22_L1 ⟨[(0, .bad), (2, .ptr 0 0), (3, .bad), (4, .ptr 1 0), (6, .bad), (7, .bad), (8, .bad), (9, .bad), (10, .bad), (11, .bad), (12, sl TVars.c l), (13, .int .i64 (l.length : Int)), (14, .int .i64 v14), (15, .bad), (21, .bad), (25, .bad), (26, .bad), (27, .bad), (28, .bad), (39, .bad), (72, .bad)], [], [(0, .box [.nil, .nil]), (1, .box [.own 1 2 0 out_0.length false, .own 1 3 0 out_1.length false]), (2, .arr 1 (List.map cs out_0) 0), (3, .arr 1 (List.map (ci .i64) out_1) 0)], 4⟩ (blockQ 0 (seqQ Pg 75 0 (.seq (.seq (.reg none i22_R18) (.cond (.t 72) (.seq (.reg none i22_R19) .ret) .skip)) (.seq (.reg none i22_R20) .ret)) (qf_22 r))) := by
  unfold m_vars_Of_l1_B at h
  refine LWp.stepC i22_L1.eq_1 ?_
  refine Wp.seq (regP (seqN (Wp.seq ?_)))
  replace h := ifS h; rcases h with ⟨g1, h⟩ | ⟨g1, h⟩
  · refine condTP (Wp.skip (seqN (Wp.seq (Wp.block (Wp.seq ?_)))))
    replace h := bndS h; obtain ⟨e, g2, h⟩ := h
    refine regP (seqN (Wp.seq (Wp.seq (Wp.reg ?_))))
    replace h := bndS h; obtain ⟨r0, g3, h⟩ := h
    refine chunkT 2 (tab_cons (w_m_vars_Check g3) (tab_nil _)) ?_
    refine lastT (tab_nil _) (seqN (Wp.seq ?_))
    refine regP (seqN ?_)
    replace h := ifS h; rcases h with ⟨g4, h⟩ | ⟨g4, h⟩
    · replace h := retS h; subst h
      refine condTP (Wp.seq ?_)
      refine regP (seqN ?_)
      refine weakP [.cell 2 0 .frz, .cell 2 1 .frz] (Wp.ret (seqR (blockR (seqR (loopR (blockR (seqR ?_)))))))
      exact finP
    · refine condFP (Wp.skip (seqN (Wp.seq ?_)))
      refine regP (seqN (Wp.block (Wp.loop ?_)))
      exact jumpL [.kill [7, 15, 21], .tidy] (w_m_vars_Of_l2 (l := l) hrec_m_vars_Of_l1 _ h)
  · refine condFP (Wp.out (seqO (loopO (blockO (seqN ?_)))))
    exact jumpK [.kill [12, 13, 14, 15]] (w_m_vars_Of_k1 h)
theorem w_m_vars_Of_l1 {l : (List TVars)} {r : (TVars × Int)}   : ∀ (n : Nat) {v14 : Int} {out_0 : (List ByteArray)} {out_1 : (List Int)}, m_vars_Of_l1  l n v14 out_0 out_1 = some r → LWp Pg 75 0 i22_L1 ⟨[(0, .bad), (2, .ptr 0 0), (3, .bad), (4, .ptr 1 0), (6, .bad), (7, .bad), (8, .bad), (9, .bad), (10, .bad), (11, .bad), (12, sl TVars.c l), (13, .int .i64 (l.length : Int)), (14, .int .i64 v14), (15, .bad), (21, .bad), (25, .bad), (26, .bad), (27, .bad), (28, .bad), (39, .bad), (72, .bad)], [], [(0, .box [.nil, .nil]), (1, .box [.own 1 2 0 out_0.length false, .own 1 3 0 out_1.length false]), (2, .arr 1 (List.map cs out_0) 0), (3, .arr 1 (List.map (ci .i64) out_1) 0)], 4⟩ (blockQ 0 (seqQ Pg 75 0 (.seq (.seq (.reg none i22_R18) (.cond (.t 72) (.seq (.reg none i22_R19) .ret) .skip)) (.seq (.reg none i22_R20) .ret)) (qf_22 r))) := by
  intro n
  induction n with
  | zero => intro v14 out_0 out_1 h; unfold m_vars_Of_l1 at h; cases h
  | succ n ih => intro v14 out_0 out_1 h; unfold m_vars_Of_l1 at h; exact w_m_vars_Of_l1_B  ih h
theorem w_m_vars_Of {l : (List TVars)} {r : (TVars × Int)}   (h : m_vars_Of l = some r) : Spec Pg 22 [sl TVars.c l] [] 0 (.tup [.agg [sl cs r.1.Names, sl (ci .i64) r.1.Vals], .int .i64 r.2]) [] 0 := by
  refine Spec.intro Go.Proofs.Try.func22 i22_ok (le_of_ble rfl) ?_
  show Wp Pg 75 0 i22_B ⟨argEnv [sl TVars.c l] i22_V, [], [], 0⟩ (qf_22 r)
  unfold m_vars_Of at h
  unfold i22_B
  refine weakP [] ?_
  refine Wp.seq (regP (seqN (Wp.seq ?_)))
  refine regP (seqN (Wp.seq (Wp.seq ?_)))
  refine regP (seqN (Wp.block (Wp.loop ?_)))
  exact jumpL [.kill [0, 3, 6, 7, 8, 9, 10, 11, 15, 21, 25, 26, 27, 28, 39, 72], .cell 4 0 (.virt 1), .cell 4 1 (.virt 1), .tidy] (w_m_vars_Of_l1 _ h)
/-! funicular/funicularref09.put -/
noncomputable abbrev qf_70 (r : TVars) : Ex → St → Prop := FinQ 0 [.cell 6 true 2] (.agg [sl cs r.Names, sl (ci .i64) r.Vals]) [] 0
theorem w_m_ref09_put_k4 {name : ByteArray} {n0 : Int} {done_3 : Bool} {out_0_3 : (List ByteArray)} {out_1_3 : (List Int)} {r : TVars}   (h : m_ref09_put_k4 name n0 done_3 out_0_3 out_1_3 = some r) : Wp Pg 84 0 (.seq (.seq (.reg none i70_R13) (.cond (.t 70) (.seq (.reg none i70_R14) (.reg none i70_R15)) .skip)) (.seq (.reg none i70_R16) .ret)) ⟨[(0, .bad), (1, .str name), (2, .int .i64 n0), (3, .bad), (6, .ptr 0 0), (7, .ptr 1 0), (8, .bool done_3), (9, .bad), (15, .bad), (29, .bad), (48, .bad), (70, .bad)], [], [(0, .box [.nil, .nil]), (1, .box [.own 1 2 0 out_0_3.length false, .own 1 3 0 out_1_3.length false]), (2, .arr 1 (List.map cs out_0_3) 0), (3, .arr 1 (List.map (ci .i64) out_1_3) 0)], 4⟩ (qf_70 r) := by
  unfold m_ref09_put_k4 at h
  refine Wp.seq (Wp.seq (regP (seqN ?_)))
  replace h := ifS h; rcases h with ⟨g12, h⟩ | ⟨g12, h⟩
  · replace h := retS h; subst h
    refine condFP (Wp.skip (seqN (Wp.seq ?_)))
    refine regP (seqN ?_)
    refine weakP [.cell 6 0 .frz, .cell 6 1 .frz] (Wp.ret ?_)
    exact finP
  · refine condTP (Wp.seq ?_)
    replace h := reqS h; obtain ⟨g13, h⟩ := h
    refine regP (seqN ?_)
    replace h := reqS h; obtain ⟨g14, h⟩ := h
    replace h := retS h; subst h
    refine regP (seqN (Wp.seq ?_))
    refine regP (seqN ?_)
    refine weakP [.cell 6 0 .frz, .cell 6 1 .frz] (Wp.ret ?_)
    exact finP
theorem w_m_ref09_put_k3 {v : TVars} {name : ByteArray} {n0 : Int} {i : Int} {done_2 : Bool} {out_0_2 : (List ByteArray)} {out_1_2 : (List Int)} {r : TVars} {rec_m_ref09_put_l1 : Bool → Int → (List ByteArray) → (List Int) → Option TVars} (hrec_m_ref09_put_l1 : ∀ {done : Bool} {i : Int} {out_0 : (List ByteArray)} {out_1 : (List Int)}, rec_m_ref09_put_l1 done i out_0 out_1 = some r → LWp Pg 84 0 i70_L0 ⟨[(0, .bad), (1, .str name), (2, .int .i64 n0), (3, .ptr 0 0), (6, .ptr 1 0), (7, .ptr 2 0), (8, .bool done), (9, .int .i64 i), (15, .bad), (29, .bad), (48, .bad), (70, .bad)], [], [(0, .box [sl cs v.Names, sl (ci .i64) v.Vals]), (1, .box [.nil, .nil]), (2, .box [.own 1 3 0 out_0.length false, .own 1 4 0 out_1.length false]), (3, .arr 1 (List.map cs out_0) 0), (4, .arr 1 (List.map (ci .i64) out_1) 0)], 5⟩ (blockQ 0 (seqQ Pg 84 0 (.seq (.seq (.reg none i70_R13) (.cond (.t 70) (.seq (.reg none i70_R14) (.reg none i70_R15)) .skip)) (.seq (.reg none i70_R16) .ret)) (qf_70 r)))) (h : m_ref09_put_k3 rec_m_ref09_put_l1 i done_2 out_0_2 out_1_2 = some r) : Wp Pg 84 0 (.reg none i70_R12) ⟨[(0, .bad), (1, .str name), (2, .int .i64 n0), (3, .ptr 0 0), (6, .ptr 1 0), (7, .ptr 2 0), (8, .bool done_2), (9, .int .i64 i), (15, .bad), (29, .bad), (48, .bad), (70, .bad)], [], [(0, .box [sl cs v.Names, sl (ci .i64) v.Vals]), (1, .box [.nil, .nil]), (2, .box [.own 1 3 0 out_0_2.length false, .own 1 4 0 out_1_2.length false]), (3, .arr 1 (List.map cs out_0_2) 0), (4, .arr 1 (List.map (ci .i64) out_1_2) 0)], 5⟩ (loopQ Pg 84 0 i70_L0 (blockQ 0 (seqQ Pg 84 0 (.seq (.seq (.reg none i70_R13) (.cond (.t 70) (.seq (.reg none i70_R14) (.reg none i70_R15)) .skip)) (.seq (.reg none i70_R16) .ret)) (qf_70 r)))) := by
  unfold m_ref09_put_k3 at h
  refine regP (loopN ?_)
  exact jumpL [] (hrec_m_ref09_put_l1 h)
theorem w_m_ref09_put_k2 {n0 : Int} {v : TVars} {name : ByteArray} {i : Int} {done_2 : Bool} {out_0_1 : (List ByteArray)} {out_1_1 : (List Int)} {r : TVars} {rec_m_ref09_put_l1 : Bool → Int → (List ByteArray) → (List Int) → Option TVars} (hrec_m_ref09_put_l1 : ∀ {done : Bool} {i : Int} {out_0 : (List ByteArray)} {out_1 : (List Int)}, rec_m_ref09_put_l1 done i out_0 out_1 = some r → LWp Pg 84 0 i70_L0 ⟨[(0, .bad), (1, .str name), (2, .int .i64 n0), (3, .ptr 0 0), (6, .ptr 1 0), (7, .ptr 2 0), (8, .bool done), (9, .int .i64 i), (15, .bad), (29, .bad), (48, .bad), (70, .bad)], [], [(0, .box [sl cs v.Names, sl (ci .i64) v.Vals]), (1, .box [.nil, .nil]), (2, .box [.own 1 3 0 out_0.length false, .own 1 4 0 out_1.length false]), (3, .arr 1 (List.map cs out_0) 0), (4, .arr 1 (List.map (ci .i64) out_1) 0)], 5⟩ (blockQ 0 (seqQ Pg 84 0 (.seq (.seq (.reg none i70_R13) (.cond (.t 70) (.seq (.reg none i70_R14) (.reg none i70_R15)) .skip)) (.seq (.reg none i70_R16) .ret)) (qf_70 r)))) (h : m_ref09_put_k2 rec_m_ref09_put_l1 v name i done_2 out_0_1 out_1_1 = some r) : Wp Pg 84 0 (.seq (.reg none i70_R9) (.cond (.t 48) (.seq (.reg (some [(1, 7)]) i70_R10) (.reg (some [(1, 7)]) i70_R11)) .skip)) ⟨[(0, .bad), (1, .str name), (2, .int .i64 n0), (3, .ptr 0 0), (6, .ptr 1 0), (7, .ptr 2 0), (8, .bool done_2), (9, .int .i64 i), (15, .bad), (29, .bad), (48, .bad), (70, .bad)], [], [(0, .box [sl cs v.Names, sl (ci .i64) v.Vals]), (1, .box [.nil, .nil]), (2, .box [.own 1 3 0 out_0_1.length false, .own 1 4 0 out_1_1.length false]), (3, .arr 1 (List.map cs out_0_1) 0), (4, .arr 1 (List.map (ci .i64) out_1_1) 0)], 5⟩ (blockQ 1 (seqQ Pg 84 0 (.reg none i70_R12) (loopQ Pg 84 0 i70_L0 (blockQ 0 (seqQ Pg 84 0 (.seq (.seq (.reg none i70_R13) (.cond (.t 70) (.seq (.reg none i70_R14) (.reg none i70_R15)) .skip)) (.seq (.reg none i70_R16) .ret)) (qf_70 r)))))) := by
  unfold m_ref09_put_k2 at h
  refine Wp.seq ?_
  replace h := bndS h; obtain ⟨e_1, g7, h⟩ := h
  refine regP (seqN ?_)
  replace h := ifS h; rcases h with ⟨g8, h⟩ | ⟨g8, h⟩
  · refine condFP (Wp.skip (blockN (seqN ?_)))
    exact jumpK [.kill [48]] (w_m_ref09_put_k3 (v := v) (name := name) (n0 := n0) hrec_m_ref09_put_l1 h)
  · refine condTP (Wp.seq ?_)
    replace h := reqS h; obtain ⟨g9, h⟩ := h
    refine drawP [] mixed (clsN _) (seqN ?_)
    replace h := bndS h; obtain ⟨e_2, g10, h⟩ := h
    replace h := reqS h; obtain ⟨g11, h⟩ := h
    refine drawP [] mixed (clsN _) (blockN (seqN ?_))
    exact jumpK [.kill [48], .tidy] (w_m_ref09_put_k3 (v := v) (name := name) (n0 := n0) hrec_m_ref09_put_l1 h)
theorem w_m_ref09_put_k1 {v : TVars} {name : ByteArray} {n0 : Int} {i : Int} {out_0 : (List ByteArray)} {out_1 : (List Int)} {done_1 : Bool} {v29 : Bool} {r : TVars} {rec_m_ref09_put_l1 : Bool → Int → (List ByteArray) → (List Int) → Option TVars} (hrec_m_ref09_put_l1 : ∀ {done : Bool} {i : Int} {out_0 : (List ByteArray)} {out_1 : (List Int)}, rec_m_ref09_put_l1 done i out_0 out_1 = some r → LWp Pg 84 0 i70_L0 ⟨[(0, .bad), (1, .str name), (2, .int .i64 n0), (3, .ptr 0 0), (6, .ptr 1 0), (7, .ptr 2 0), (8, .bool done), (9, .int .i64 i), (15, .bad), (29, .bad), (48, .bad), (70, .bad)], [], [(0, .box [sl cs v.Names, sl (ci .i64) v.Vals]), (1, .box [.nil, .nil]), (2, .box [.own 1 3 0 out_0.length false, .own 1 4 0 out_1.length false]), (3, .arr 1 (List.map cs out_0) 0), (4, .arr 1 (List.map (ci .i64) out_1) 0)], 5⟩ (blockQ 0 (seqQ Pg 84 0 (.seq (.seq (.reg none i70_R13) (.cond (.t 70) (.seq (.reg none i70_R14) (.reg none i70_R15)) .skip)) (.seq (.reg none i70_R16) .ret)) (qf_70 r)))) (h : m_ref09_put_k1 rec_m_ref09_put_l1 v name n0 i out_0 out_1 done_1 v29 = some r) : Wp Pg 84 0 (.cond (.t 29) (.seq (.reg none i70_R6) (.seq (.reg none i70_R7) (.reg none i70_R8))) .skip) ⟨[(0, .bad), (1, .str name), (2, .int .i64 n0), (3, .ptr 0 0), (6, .ptr 1 0), (7, .ptr 2 0), (8, .bool done_1), (9, .int .i64 i), (15, .bad), (29, .bool v29), (48, .bad), (70, .bad)], [], [(0, .box [sl cs v.Names, sl (ci .i64) v.Vals]), (1, .box [.nil, .nil]), (2, .box [.own 1 3 0 out_0.length false, .own 1 4 0 out_1.length false]), (3, .arr 1 (List.map cs out_0) 0), (4, .arr 1 (List.map (ci .i64) out_1) 0)], 5⟩ (seqQ Pg 84 0 (.seq (.reg none i70_R9) (.cond (.t 48) (.seq (.reg (some [(1, 7)]) i70_R10) (.reg (some [(1, 7)]) i70_R11)) .skip)) (blockQ 1 (seqQ Pg 84 0 (.reg none i70_R12) (loopQ Pg 84 0 i70_L0 (blockQ 0 (seqQ Pg 84 0 (.seq (.seq (.reg none i70_R13) (.cond (.t 70) (.seq (.reg none i70_R14) (.reg none i70_R15)) .skip)) (.seq (.reg none i70_R16) .ret)) (qf_70 r))))))) := by
  unfold m_ref09_put_k1 at h
  replace h := ifS h; rcases h with ⟨g4, h⟩ | ⟨g4, h⟩
  · refine condTP (Wp.seq ?_)
    replace h := reqS h; obtain ⟨g5, h⟩ := h
    refine regP (seqN (Wp.seq ?_))
    replace h := reqS h; obtain ⟨g6, h⟩ := h
    refine regP (seqN ?_)
    refine regP (seqN ?_)
    exact jumpK [.kill [29], .tidy] (w_m_ref09_put_k2 (n0 := n0) hrec_m_ref09_put_l1 h)
  · refine condFP (Wp.skip (seqN ?_))
    exact jumpK [.kill [29]] (w_m_ref09_put_k2 (n0 := n0) hrec_m_ref09_put_l1 h)
theorem w_m_ref09_put_l1_B {v : TVars} {name : ByteArray} {n0 : Int} {r : TVars}   {rec_m_ref09_put_l1 : Bool → Int → (List ByteArray) → (List Int) → Option TVars} (hrec_m_ref09_put_l1 : ∀ {done : Bool} {i : Int} {out_0 : (List ByteArray)} {out_1 : (List Int)}, rec_m_ref09_put_l1 done i out_0 out_1 = some r → LWp Pg 84 0 i70_L0 ⟨[(0, .bad), (1, .str name), (2, .int .i64 n0), (3, .ptr 0 0), (6, .ptr 1 0), (7, .ptr 2 0), (8, .bool done), (9, .int .i64 i), (15, .bad), (29, .bad), (48, .bad), (70, .bad)], [], [(0, .box [sl cs v.Names, sl (ci .i64) v.Vals]), (1, .box [.nil, .nil]), (2, .box [.own 1 3 0 out_0.length false, .own 1 4 0 out_1.length false]), (3, .arr 1 (List.map cs out_0) 0), (4, .arr 1 (List.map (ci .i64) out_1) 0)], 5⟩ (blockQ 0 (seqQ Pg 84 0 (.seq (.seq (.reg none i70_R13) (.cond (.t 70) (.seq (.reg none i70_R14) (.reg none i70_R15)) .skip)) (.seq (.reg none i70_R16) .ret)) (qf_70 r)))) {done : Bool} {i : Int} {out_0 : (List ByteArray)} {out_1 : (List Int)} (h : m_ref09_put_l1_B  v name n0 rec_m_ref09_put_l1 done i out_0 out_1 = some r) : LWp Pg 84 0 i70_L0 ⟨[(0, .bad), (1, .str name), (2, .int .i64 n0), (3, .ptr 0 0), (6, .ptr 1 0), (7, .ptr 2 0), (8, .bool done), (9, .int .i64 i), (15, .bad), (29, .bad), (48, .bad), (70, .bad)], [], [(0, .box [sl cs v.Names, sl (ci .i64) v.Vals]), (1, .box [.nil, .nil]), (2, .box [.own 1 3 0 out_0.length false, .own 1 4 0 out_1.length false]), (3, .arr 1 (List.map cs out_0) 0), (4, .arr 1 (List.map (ci .i64) out_1) 0)], 5⟩ (blockQ 0 (seqQ Pg 84 0 (.seq (.seq (.reg none i70_R13) (.cond (.t 70) (.seq (.reg none i70_R14) (.reg none i70_R15)) .skip)) (.seq (.reg none i70_R16) .ret)) (qf_70 r))) := by
  unfold m_ref09_put_l1_B at h
  refine LWp.stepC i70_L0.eq_1 ?_
  refine Wp.seq (Wp.seq (regP (seqN ?_)))
  replace h := ifS h; rcases h with ⟨g1, h⟩ | ⟨g1, h⟩
  · refine condTP (Wp.skip (seqN (Wp.seq (Wp.block (Wp.seq (Wp.seq ?_))))))
    replace h := ifS h; rcases h with ⟨g2, h⟩ | ⟨g2, h⟩
    · refine regP (seqN ?_)
      exact jumpK [.kill [15]] (w_m_ref09_put_k1 hrec_m_ref09_put_l1 h)
    · replace h := bndS h; obtain ⟨e, g3, h⟩ := h
      refine regP (seqN ?_)
      exact jumpK [.kill [15]] (w_m_ref09_put_k1 hrec_m_ref09_put_l1 h)
  · refine condFP (Wp.out (seqO (loopO (blockO (seqN ?_)))))
    exact jumpK [.kill [3, 9, 15], .tidy] (w_m_ref09_put_k4 h)
theorem w_m_ref09_put_l1 {v : TVars} {name : ByteArray} {n0 : Int} {r : TVars}   : ∀ (n : Nat) {done : Bool} {i : Int} {out_0 : (List ByteArray)} {out_1 : (List Int)}, m_ref09_put_l1  v name n0 n done i out_0 out_1 = some r → LWp Pg 84 0 i70_L0 ⟨[(0, .bad), (1, .str name), (2, .int .i64 n0), (3, .ptr 0 0), (6, .ptr 1 0), (7, .ptr 2 0), (8, .bool done), (9, .int .i64 i), (15, .bad), (29, .bad), (48, .bad), (70, .bad)], [], [(0, .box [sl cs v.Names, sl (ci .i64) v.Vals]), (1, .box [.nil, .nil]), (2, .box [.own 1 3 0 out_0.length false, .own 1 4 0 out_1.length false]), (3, .arr 1 (List.map cs out_0) 0), (4, .arr 1 (List.map (ci .i64) out_1) 0)], 5⟩ (blockQ 0 (seqQ Pg 84 0 (.seq (.seq (.reg none i70_R13) (.cond (.t 70) (.seq (.reg none i70_R14) (.reg none i70_R15)) .skip)) (.seq (.reg none i70_R16) .ret)) (qf_70 r))) := by
  intro n
  induction n with
  | zero => intro done i out_0 out_1 h; unfold m_ref09_put_l1 at h; cases h
  | succ n ih => intro done i out_0 out_1 h; unfold m_ref09_put_l1 at h; exact w_m_ref09_put_l1_B  ih h
theorem w_m_ref09_put {v : TVars} {name : ByteArray} {n0 : Int} {r : TVars}   (h : m_ref09_put v name n0 = some r) : Spec Pg 70 [.agg [sl cs v.Names, sl (ci .i64) v.Vals], .str name, .int .i64 n0] [] 0 (.agg [sl cs r.Names, sl (ci .i64) r.Vals]) [] 0 := by
  refine Spec.intro Go.Proofs.Try.func70 i70_ok (le_of_ble rfl) ?_
  show Wp Pg 84 0 i70_B ⟨argEnv [.agg [sl cs v.Names, sl (ci .i64) v.Vals], .str name, .int .i64 n0] i70_V, [], [], 0⟩ (qf_70 r)
  unfold m_ref09_put at h
  unfold i70_B
  refine weakP [] ?_
  refine Wp.seq (regP (seqN (Wp.seq ?_)))
  refine regP (seqN (Wp.seq ?_))
  refine regP (seqN (Wp.seq (Wp.seq ?_)))
  refine regP (seqN (Wp.block (Wp.loop ?_)))
  exact jumpL [.kill [0, 15, 29, 48, 70], .cell 7 0 (.virt 1), .cell 7 1 (.virt 1), .tidy] (w_m_ref09_put_l1 _ h)
end Go.Proofs.Ytjhnlgelcfplaaa.R
