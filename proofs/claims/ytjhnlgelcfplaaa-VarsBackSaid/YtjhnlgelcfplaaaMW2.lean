/- The program's functions answer what the models answer: 2. -/
import Derived.Test.YtjhnlgelcfplaaaMW0
import Derived.Test.YtjhnlgelcfplaaaMW1
set_option maxRecDepth 100000
set_option maxHeartbeats 1600000
set_option linter.unusedVariables false
set_option linter.unusedSimpArgs false
set_option linter.defProp false
noncomputable section
namespace Go.Proofs.Ytjhnlgelcfplaaa.R
open Go Nat
/-! funicular/funicularref09.Check -/
noncomputable abbrev qf_15 (r : Int) : Ex → St → Prop := FinQ 0 [.tmp 2] (.int .i64 r) [] 0
theorem w_m_ref09_Check_k1 {v : TVars} {i : Int} {v53 : Bool} {r : Int} {rec_m_ref09_Check_l1 : Int → Option Int} (hrec_m_ref09_Check_l1 : ∀ {i : Int}, rec_m_ref09_Check_l1 i = some r → LWp Pg 54 0 i15_L0 ⟨[(0, .bad), (1, .ptr 0 0), (2, .bad), (3, .int .i64 i), (4, .bad), (11, .bad), (15, .bad), (20, .bad), (53, .bad)], [], [(0, .box [sl cs v.Names, sl (ci .i64) v.Vals])], 1⟩ (blockQ 0 (seqQ Pg 54 0 (.seq (.reg none i15_R11) .ret) (qf_15 r)))) (h : m_ref09_Check_k1 rec_m_ref09_Check_l1 i v53 = some r) : Wp Pg 54 0 (.cond (.t 53) (.seq (.reg none i15_R9) .ret) .skip) ⟨[(0, .bad), (1, .ptr 0 0), (2, .bad), (3, .int .i64 i), (4, .bad), (11, .bad), (15, .bad), (20, .bad), (53, .bool v53)], [], [(0, .box [sl cs v.Names, sl (ci .i64) v.Vals])], 1⟩ (blockQ 1 (seqQ Pg 54 0 (.reg none i15_R10) (loopQ Pg 54 0 i15_L0 (blockQ 0 (seqQ Pg 54 0 (.seq (.reg none i15_R11) .ret) (qf_15 r)))))) := by
  unfold m_ref09_Check_k1 at h
  replace h := ifS h; rcases h with ⟨g11, h⟩ | ⟨g11, h⟩
  · replace h := retS h; subst h
    refine condTP (Wp.seq ?_)
    refine regP (seqN (Wp.ret (blockR (seqR (loopR (blockR (seqR ?_)))))))
    exact finP
  · refine condFP (Wp.skip (blockN (seqN ?_)))
    refine regP (loopN ?_)
    exact jumpL [.kill [53]] (hrec_m_ref09_Check_l1 h)
theorem w_m_ref09_Check_l1_B {v : TVars} {r : Int}   {rec_m_ref09_Check_l1 : Int → Option Int} (hrec_m_ref09_Check_l1 : ∀ {i : Int}, rec_m_ref09_Check_l1 i = some r → LWp Pg 54 0 i15_L0 ⟨[(0, .bad), (1, .ptr 0 0), (2, .bad), (3, .int .i64 i), (4, .bad), (11, .bad), (15, .bad), (20, .bad), (53, .bad)], [], [(0, .box [sl cs v.Names, sl (ci .i64) v.Vals])], 1⟩ (blockQ 0 (seqQ Pg 54 0 (.seq (.reg none i15_R11) .ret) (qf_15 r)))) {i : Int} (h : m_ref09_Check_l1_B  v rec_m_ref09_Check_l1 i = some r) : LWp Pg 54 0 i15_L0 ⟨[(0, .bad), (1, .ptr 0 0), (2, .bad), (3, .int .i64 i), (4, .bad), (11, .bad), (15, .bad), (20, .bad), (53, .bad)], [], [(0, .box [sl cs v.Names, sl (ci .i64) v.Vals])], 1⟩ (blockQ 0 (seqQ Pg 54 0 (.seq (.reg none i15_R11) .ret) (qf_15 r))) := by
  unfold m_ref09_Check_l1_B at h
  refine LWp.stepC i15_L0.eq_1 ?_
  refine Wp.seq (Wp.seq (regP (seqN ?_)))
  replace h := ifS h; rcases h with ⟨g3, h⟩ | ⟨g3, h⟩
  · refine condTP (Wp.skip (seqN (Wp.seq (Wp.block (Wp.seq ?_)))))
    replace h := bndS h; obtain ⟨e, g4, h⟩ := h
    refine regP (seqN (Wp.seq (Wp.reg ?_)))
    replace h := bndS h; obtain ⟨r0, g5, h⟩ := h
    refine chunkT 2 (tab_cons (w_m_ref02_Name g5) (tab_nil _)) ?_
    replace h := ifS h; rcases h with ⟨g6, h⟩ | ⟨g6, h⟩
    · replace h := ifS h; rcases h with ⟨g7, h⟩ | ⟨g7, h⟩
      · refine lastT (tab_nil _) (seqN ?_)
        exact jumpK [.kill [4, 20]] (w_m_ref09_Check_k1 (v := v) hrec_m_ref09_Check_l1 h)
      · replace h := ifS h; rcases h with ⟨g8, h⟩ | ⟨g8, h⟩
        · refine lastT (tab_nil _) (seqN ?_)
          exact jumpK [.kill [4, 20]] (w_m_ref09_Check_k1 (v := v) hrec_m_ref09_Check_l1 h)
        · replace h := ifS h; rcases h with ⟨g9, h⟩ | ⟨g9, h⟩
          · replace h := bndS h; obtain ⟨e_1, g10, h⟩ := h
            refine lastT (tab_nil _) (seqN ?_)
            exact jumpK [.kill [4, 20]] (w_m_ref09_Check_k1 (v := v) hrec_m_ref09_Check_l1 h)
          · refine lastT (tab_nil _) (seqN ?_)
            exact jumpK [.kill [4, 20]] (w_m_ref09_Check_k1 (v := v) hrec_m_ref09_Check_l1 h)
    · refine lastT (tab_nil _) (seqN ?_)
      exact jumpK [.kill [4, 20]] (w_m_ref09_Check_k1 (v := v) hrec_m_ref09_Check_l1 h)
  · replace h := retS h; subst h
    refine condFP (Wp.out (seqO (loopO (blockO (seqN (Wp.seq ?_))))))
    refine regP (seqN (Wp.ret ?_))
    exact finP
theorem w_m_ref09_Check_l1 {v : TVars} {r : Int}   : ∀ (n : Nat) {i : Int}, m_ref09_Check_l1  v n i = some r → LWp Pg 54 0 i15_L0 ⟨[(0, .bad), (1, .ptr 0 0), (2, .bad), (3, .int .i64 i), (4, .bad), (11, .bad), (15, .bad), (20, .bad), (53, .bad)], [], [(0, .box [sl cs v.Names, sl (ci .i64) v.Vals])], 1⟩ (blockQ 0 (seqQ Pg 54 0 (.seq (.reg none i15_R11) .ret) (qf_15 r))) := by
  intro n
  induction n with
  | zero => intro i h; unfold m_ref09_Check_l1 at h; cases h
  | succ n ih => intro i h; unfold m_ref09_Check_l1 at h; exact w_m_ref09_Check_l1_B  ih h
theorem w_m_ref09_Check {v : TVars} {r : Int}   (h : m_ref09_Check v = some r) : Spec Pg 15 [.agg [sl cs v.Names, sl (ci .i64) v.Vals]] [] 0 (.int .i64 r) [] 0 := by
  refine Spec.intro Go.Proofs.Try.func15 i15_ok (le_of_ble rfl) ?_
  show Wp Pg 54 0 i15_B ⟨argEnv [.agg [sl cs v.Names, sl (ci .i64) v.Vals]] i15_V, [], [], 0⟩ (qf_15 r)
  unfold m_ref09_Check at h
  unfold i15_B
  refine weakP [] ?_
  refine Wp.seq (regP (seqN (Wp.seq (Wp.seq ?_))))
  refine regP (seqN ?_)
  replace h := ifS h; rcases h with ⟨g1, h⟩ | ⟨g1, h⟩
  · replace h := retS h; subst h
    refine condTP (Wp.seq ?_)
    refine regP (seqN (Wp.ret (seqR ?_)))
    exact finP
  · refine condFP (Wp.skip (seqN (Wp.seq (Wp.seq ?_))))
    refine regP (seqN ?_)
    replace h := ifS h; rcases h with ⟨g2, h⟩ | ⟨g2, h⟩
    · replace h := retS h; subst h
      refine condTP (Wp.seq ?_)
      refine regP (seqN (Wp.ret (seqR ?_)))
      exact finP
    · refine condFP (Wp.skip (seqN (Wp.seq (Wp.seq ?_))))
      refine regP (seqN (Wp.block (Wp.loop ?_)))
      exact jumpL [.kill [0, 2, 4, 11, 15, 20, 53]] (w_m_ref09_Check_l1 _ h)
/-! funicular/funicularref08.Texts -/
noncomputable abbrev qf_58 (r : Bool) : Ex → St → Prop := FinQ 0 [.tmp 4] (.bool r) [] 0
theorem w_m_ref08_Texts_l1_B {a : (List ByteArray)} {b : (List ByteArray)} {r : Bool}   {rec_m_ref08_Texts_l1 : Int → Option Bool} (hrec_m_ref08_Texts_l1 : ∀ {i : Int}, rec_m_ref08_Texts_l1 i = some r → LWp Pg 26 0 i58_L0 ⟨[(0, sl cs a), (1, sl cs b), (4, .bad), (5, .int .i64 i), (10, .bad), (14, .bad), (25, .bad)], [], [], 0⟩ (blockQ 0 (seqQ Pg 26 0 (.seq (.reg none i58_R8) .ret) (qf_58 r)))) {i : Int} (h : m_ref08_Texts_l1_B  a b rec_m_ref08_Texts_l1 i = some r) : LWp Pg 26 0 i58_L0 ⟨[(0, sl cs a), (1, sl cs b), (4, .bad), (5, .int .i64 i), (10, .bad), (14, .bad), (25, .bad)], [], [], 0⟩ (blockQ 0 (seqQ Pg 26 0 (.seq (.reg none i58_R8) .ret) (qf_58 r))) := by
  unfold m_ref08_Texts_l1_B at h
  refine LWp.stepC i58_L0.eq_1 ?_
  refine Wp.seq (Wp.seq (regP (seqN ?_)))
  replace h := ifS h; rcases h with ⟨g2, h⟩ | ⟨g2, h⟩
  · refine condTP (Wp.skip (seqN (Wp.seq (Wp.block (Wp.seq ?_)))))
    replace h := bndS h; obtain ⟨e, g3, h⟩ := h
    replace h := bndS h; obtain ⟨e_1, g4, h⟩ := h
    refine drawP [] mixed (clsN _) (seqN ?_)
    replace h := ifS h; rcases h with ⟨g5, h⟩ | ⟨g5, h⟩
    · refine condFP (Wp.skip (blockN (seqN ?_)))
      refine regP (loopN ?_)
      exact jumpL [.kill [14, 25], .tidy] (hrec_m_ref08_Texts_l1 h)
    · replace h := retS h; subst h
      refine condTP (Wp.seq ?_)
      refine regP (seqN (Wp.ret (blockR (seqR (loopR (blockR (seqR ?_)))))))
      exact finP
  · replace h := retS h; subst h
    refine condFP (Wp.out (seqO (loopO (blockO (seqN (Wp.seq ?_))))))
    refine regP (seqN (Wp.ret ?_))
    exact finP
theorem w_m_ref08_Texts_l1 {a : (List ByteArray)} {b : (List ByteArray)} {r : Bool}   : ∀ (n : Nat) {i : Int}, m_ref08_Texts_l1  a b n i = some r → LWp Pg 26 0 i58_L0 ⟨[(0, sl cs a), (1, sl cs b), (4, .bad), (5, .int .i64 i), (10, .bad), (14, .bad), (25, .bad)], [], [], 0⟩ (blockQ 0 (seqQ Pg 26 0 (.seq (.reg none i58_R8) .ret) (qf_58 r))) := by
  intro n
  induction n with
  | zero => intro i h; unfold m_ref08_Texts_l1 at h; cases h
  | succ n ih => intro i h; unfold m_ref08_Texts_l1 at h; exact w_m_ref08_Texts_l1_B  ih h
theorem w_m_ref08_Texts {a : (List ByteArray)} {b : (List ByteArray)} {r : Bool}   (h : m_ref08_Texts a b = some r) : Spec Pg 58 [sl cs a, sl cs b] [] 0 (.bool r) [] 0 := by
  refine Spec.intro Go.Proofs.Try.func58 i58_ok (le_of_ble rfl) ?_
  show Wp Pg 26 0 i58_B ⟨argEnv [sl cs a, sl cs b] i58_V, [], [], 0⟩ (qf_58 r)
  unfold m_ref08_Texts at h
  unfold i58_B
  refine weakP [] ?_
  refine Wp.seq (regP (seqN (Wp.seq (Wp.seq ?_))))
  refine regP (seqN ?_)
  replace h := ifS h; rcases h with ⟨g1, h⟩ | ⟨g1, h⟩
  · replace h := retS h; subst h
    refine condTP (Wp.seq ?_)
    refine regP (seqN (Wp.ret (seqR ?_)))
    exact finP
  · refine condFP (Wp.skip (seqN (Wp.seq (Wp.seq ?_))))
    refine regP (seqN (Wp.block (Wp.loop ?_)))
    exact jumpL [.kill [4, 10, 14, 25]] (w_m_ref08_Texts_l1 _ h)
/-! funicular/funicularref09.Same -/
noncomputable abbrev qf_17 (r : Bool) : Ex → St → Prop := FinQ 0 [.tmp 4] (.bool r) [] 0
theorem w_m_ref09_Same_l1_B {a : TVars} {b : TVars} {r : Bool}   {rec_m_ref09_Same_l1 : Int → Option Bool} (hrec_m_ref09_Same_l1 : ∀ {i : Int}, rec_m_ref09_Same_l1 i = some r → LWp Pg 39 0 i17_L0 ⟨[(0, .bad), (1, .bad), (2, .ptr 0 0), (3, .ptr 1 0), (4, .bad), (5, .int .i64 i), (20, .bad), (25, .bad), (38, .bad)], [], [(0, .box [sl cs a.Names, sl (ci .i64) a.Vals]), (1, .box [sl cs b.Names, sl (ci .i64) b.Vals])], 2⟩ (blockQ 0 (seqQ Pg 39 0 (.seq (.reg none i17_R8) .ret) (qf_17 r)))) {i : Int} (h : m_ref09_Same_l1_B  a b rec_m_ref09_Same_l1 i = some r) : LWp Pg 39 0 i17_L0 ⟨[(0, .bad), (1, .bad), (2, .ptr 0 0), (3, .ptr 1 0), (4, .bad), (5, .int .i64 i), (20, .bad), (25, .bad), (38, .bad)], [], [(0, .box [sl cs a.Names, sl (ci .i64) a.Vals]), (1, .box [sl cs b.Names, sl (ci .i64) b.Vals])], 2⟩ (blockQ 0 (seqQ Pg 39 0 (.seq (.reg none i17_R8) .ret) (qf_17 r))) := by
  unfold m_ref09_Same_l1_B at h
  refine LWp.stepC i17_L0.eq_1 ?_
  refine Wp.seq (Wp.seq (regP (seqN ?_)))
  replace h := ifS h; rcases h with ⟨g4, h⟩ | ⟨g4, h⟩
  · refine condTP (Wp.skip (seqN (Wp.seq (Wp.block (Wp.seq ?_)))))
    replace h := bndS h; obtain ⟨e, g5, h⟩ := h
    replace h := bndS h; obtain ⟨e_1, g6, h⟩ := h
    refine drawP [] mixed (clsN _) (seqN ?_)
    replace h := ifS h; rcases h with ⟨g7, h⟩ | ⟨g7, h⟩
    · replace h := retS h; subst h
      refine condTP (Wp.seq ?_)
      refine regP (seqN (Wp.ret (blockR (seqR (loopR (blockR (seqR ?_)))))))
      exact finP
    · refine condFP (Wp.skip (blockN (seqN ?_)))
      refine regP (loopN ?_)
      exact jumpL [.kill [25, 38], .tidy] (hrec_m_ref09_Same_l1 h)
  · replace h := retS h; subst h
    refine condFP (Wp.out (seqO (loopO (blockO (seqN (Wp.seq ?_))))))
    refine regP (seqN (Wp.ret ?_))
    exact finP
theorem w_m_ref09_Same_l1 {a : TVars} {b : TVars} {r : Bool}   : ∀ (n : Nat) {i : Int}, m_ref09_Same_l1  a b n i = some r → LWp Pg 39 0 i17_L0 ⟨[(0, .bad), (1, .bad), (2, .ptr 0 0), (3, .ptr 1 0), (4, .bad), (5, .int .i64 i), (20, .bad), (25, .bad), (38, .bad)], [], [(0, .box [sl cs a.Names, sl (ci .i64) a.Vals]), (1, .box [sl cs b.Names, sl (ci .i64) b.Vals])], 2⟩ (blockQ 0 (seqQ Pg 39 0 (.seq (.reg none i17_R8) .ret) (qf_17 r))) := by
  intro n
  induction n with
  | zero => intro i h; unfold m_ref09_Same_l1 at h; cases h
  | succ n ih => intro i h; unfold m_ref09_Same_l1 at h; exact w_m_ref09_Same_l1_B  ih h
theorem w_m_ref09_Same_k1 {a : TVars} {b : TVars} {v20 : Bool} {r : Bool}   (h : m_ref09_Same_k1 a b v20 = some r) : Wp Pg 39 0 (.cond (.t 20) (.seq (.reg none i17_R2) .ret) .skip) ⟨[(0, .bad), (1, .bad), (2, .ptr 0 0), (3, .ptr 1 0), (4, .bad), (5, .bad), (20, .bool v20), (25, .bad), (38, .bad)], [], [(0, .box [sl cs a.Names, sl (ci .i64) a.Vals]), (1, .box [sl cs b.Names, sl (ci .i64) b.Vals])], 2⟩ (seqQ Pg 39 0 (.seq (.seq (.reg none i17_R3) (.block 0 (.loop i17_L0))) (.seq (.reg none i17_R8) .ret)) (qf_17 r)) := by
  unfold m_ref09_Same_k1 at h
  replace h := ifS h; rcases h with ⟨g3, h⟩ | ⟨g3, h⟩
  · replace h := retS h; subst h
    refine condTP (Wp.seq ?_)
    refine regP (seqN (Wp.ret (seqR ?_)))
    exact finP
  · refine condFP (Wp.skip (seqN (Wp.seq (Wp.seq ?_))))
    refine regP (seqN (Wp.block (Wp.loop ?_)))
    exact jumpL [.kill [20]] (w_m_ref09_Same_l1 _ h)
theorem w_m_ref09_Same {a : TVars} {b : TVars} {r : Bool}   (h : m_ref09_Same a b = some r) : Spec Pg 17 [.agg [sl cs a.Names, sl (ci .i64) a.Vals], .agg [sl cs b.Names, sl (ci .i64) b.Vals]] [] 0 (.bool r) [] 0 := by
  refine Spec.intro Go.Proofs.Try.func17 i17_ok (le_of_ble rfl) ?_
  show Wp Pg 39 0 i17_B ⟨argEnv [.agg [sl cs a.Names, sl (ci .i64) a.Vals], .agg [sl cs b.Names, sl (ci .i64) b.Vals]] i17_V, [], [], 0⟩ (qf_17 r)
  unfold m_ref09_Same at h
  unfold i17_B
  refine weakP [] ?_
  refine Wp.seq (regP (seqN (Wp.seq (Wp.seq (Wp.reg ?_)))))
  replace h := bndS h; obtain ⟨r0, g1, h⟩ := h
  refine chunkT 5 (tab_cons (w_m_ref08_Texts g1) (tab_nil _)) ?_
  replace h := ifS h; rcases h with ⟨g2, h⟩ | ⟨g2, h⟩
  · refine lastT (tab_nil _) (seqN ?_)
    exact jumpK [.kill [0, 1, 4, 5, 25, 38], .tidy] (w_m_ref09_Same_k1 h)
  · refine lastT (tab_nil _) (seqN ?_)
    exact jumpK [.kill [0, 1, 4, 5, 25, 38], .tidy] (w_m_ref09_Same_k1 h)
/-! funicular/pack.ReadUint -/
noncomputable abbrev qf_64 (r : (Int × (List Int) × Int)) : Ex → St → Prop := FinQ 0 [.tmp 2, .tmp 3, .tmp 4] (.tup [.int .u64 r.1, sl (ci .u8) r.2.1, .int .i64 r.2.2]) [] 0
theorem w_m_pack_ReadUint_k3  {r : (Int × (List Int) × Int)}   (h : m_pack_ReadUint_k3 = some r) : Wp Pg 46 0 (.seq (.reg none i64_R14) .ret) ⟨[(0, .bad), (2, .bad), (3, .bad), (4, .bad), (5, .bad), (6, .bad), (7, .bad), (10, .bad), (11, .bad), (12, .bad), (24, .bad), (33, .bad), (39, .bad)], [], [], 0⟩ (qf_64 r) := by
  unfold m_pack_ReadUint_k3 at h
  replace h := retS h; subst h
  refine Wp.seq (regP (seqN ?_))
  refine weakP [.at 3 .frz] (Wp.ret ?_)
  exact finP
theorem w_m_pack_ReadUint_k2 {b : (List Int)} {n0 : Int} {v11 : Int} {e : Int} {v39 : Bool} {r : (Int × (List Int) × Int)}   (h : m_pack_ReadUint_k2 b n0 v11 e v39 = some r) : Wp Pg 46 0 (.cond (.t 39) (.seq (.reg none i64_R11) .ret) .skip) ⟨[(0, sl (ci .u8) b), (2, .bad), (3, .bad), (4, .bad), (5, .int .u64 (orI .u64 n0 (shlI .u64 (andI .u64 (IntKind.u64.wrap e) (127 : Int)) (IntKind.i64.wrap ((7 : Int) * v11))))), (6, .int .i64 v11), (7, .bad), (10, .bad), (11, .bad), (12, .bad), (24, .bad), (33, .bad), (39, .bool v39)], [], [], 0⟩ (seqQ Pg 46 0 (.seq (.reg (some []) i64_R12) .ret) (blockQ 1 (seqQ Pg 46 0 (.reg none i64_R13) (loopQ Pg 46 0 i64_L0 (blockQ 0 (seqQ Pg 46 0 (.seq (.reg none i64_R14) .ret) (qf_64 r))))))) := by
  unfold m_pack_ReadUint_k2 at h
  replace h := ifS h; rcases h with ⟨g8, h⟩ | ⟨g8, h⟩
  · replace h := retS h; subst h
    refine condTP (Wp.seq ?_)
    refine regP (seqN ?_)
    refine weakP [.at 3 .frz] (Wp.ret (seqR (blockR (seqR (loopR (blockR (seqR ?_)))))))
    exact finP
  · refine condFP (Wp.skip (seqN (Wp.seq ?_)))
    replace h := bndS h; obtain ⟨l, g9, h⟩ := h
    replace h := retS h; subst h
    refine drawP [] mixed (clsN _) (seqN (Wp.ret (blockR (seqR (loopR (blockR (seqR ?_)))))))
    exact finP
theorem w_m_pack_ReadUint_k1 {b : (List Int)} {n0 : Int} {v11 : Int} {e : Int} {v24 : Bool} {r : (Int × (List Int) × Int)} {rec_m_pack_ReadUint_l1 : Int → Int → Option (Int × (List Int) × Int)} (hrec_m_pack_ReadUint_l1 : ∀ {n0 : Int} {v11 : Int}, rec_m_pack_ReadUint_l1 n0 v11 = some r → LWp Pg 46 0 i64_L0 ⟨[(0, sl (ci .u8) b), (2, .bad), (3, .bad), (4, .bad), (5, .int .u64 n0), (6, .bad), (7, .bad), (10, .int .i64 (if (10 : Int) < (b.length : Int) then (10 : Int) else (b.length : Int))), (11, .int .i64 v11), (12, .bad), (24, .bad), (33, .bad), (39, .bad)], [], [], 0⟩ (blockQ 0 (seqQ Pg 46 0 (.seq (.reg none i64_R14) .ret) (qf_64 r)))) (h : m_pack_ReadUint_k1 rec_m_pack_ReadUint_l1 b n0 v11 e v24 = some r) : Wp Pg 46 0 (.cond (.t 24) (.seq (.reg none i64_R7) .ret) .skip) ⟨[(0, sl (ci .u8) b), (2, .bad), (3, .bad), (4, .bad), (5, .int .u64 n0), (6, .int .i64 v11), (7, .int .u64 (IntKind.u64.wrap e)), (10, .int .i64 (if (10 : Int) < (b.length : Int) then (10 : Int) else (b.length : Int))), (11, .int .i64 v11), (12, .bad), (24, .bool v24), (33, .bad), (39, .bad)], [], [], 0⟩ (seqQ Pg 46 0 (.seq (.reg none i64_R8) (.seq (.reg none i64_R9) (.cond (.t 33) (.seq (.seq (.reg none i64_R10) (.cond (.t 39) (.seq (.reg none i64_R11) .ret) .skip)) (.seq (.reg (some []) i64_R12) .ret)) .skip))) (blockQ 1 (seqQ Pg 46 0 (.reg none i64_R13) (loopQ Pg 46 0 i64_L0 (blockQ 0 (seqQ Pg 46 0 (.seq (.reg none i64_R14) .ret) (qf_64 r))))))) := by
  unfold m_pack_ReadUint_k1 at h
  replace h := ifS h; rcases h with ⟨g4, h⟩ | ⟨g4, h⟩
  · replace h := retS h; subst h
    refine condTP (Wp.seq ?_)
    refine regP (seqN ?_)
    refine weakP [.at 3 .frz] (Wp.ret (seqR (blockR (seqR (loopR (blockR (seqR ?_)))))))
    exact finP
  · refine condFP (Wp.skip (seqN (Wp.seq ?_)))
    replace h := reqF h; obtain ⟨g5, h⟩ := h
    refine regP (seqN (Wp.seq ?_))
    refine regP (seqN ?_)
    replace h := ifS h; rcases h with ⟨g6, h⟩ | ⟨g6, h⟩
    · refine condTP (Wp.seq (Wp.seq ?_))
      replace h := ifS h; rcases h with ⟨g7, h⟩ | ⟨g7, h⟩
      · refine regP (seqN ?_)
        exact jumpK [.kill [7, 10, 11, 24, 33]] (w_m_pack_ReadUint_k2 h)
      · refine regP (seqN ?_)
        exact jumpK [.kill [7, 10, 11, 24, 33]] (w_m_pack_ReadUint_k2 h)
    · refine condFP (Wp.skip (blockN (seqN ?_)))
      refine regP (loopN ?_)
      exact jumpL [.kill [6, 7, 24, 33]] (hrec_m_pack_ReadUint_l1 h)
theorem w_m_pack_ReadUint_l1_B {b : (List Int)} {r : (Int × (List Int) × Int)}   {rec_m_pack_ReadUint_l1 : Int → Int → Option (Int × (List Int) × Int)} (hrec_m_pack_ReadUint_l1 : ∀ {n0 : Int} {v11 : Int}, rec_m_pack_ReadUint_l1 n0 v11 = some r → LWp Pg 46 0 i64_L0 ⟨[(0, sl (ci .u8) b), (2, .bad), (3, .bad), (4, .bad), (5, .int .u64 n0), (6, .bad), (7, .bad), (10, .int .i64 (if (10 : Int) < (b.length : Int) then (10 : Int) else (b.length : Int))), (11, .int .i64 v11), (12, .bad), (24, .bad), (33, .bad), (39, .bad)], [], [], 0⟩ (blockQ 0 (seqQ Pg 46 0 (.seq (.reg none i64_R14) .ret) (qf_64 r)))) {n0 : Int} {v11 : Int} (h : m_pack_ReadUint_l1_B  b rec_m_pack_ReadUint_l1 n0 v11 = some r) : LWp Pg 46 0 i64_L0 ⟨[(0, sl (ci .u8) b), (2, .bad), (3, .bad), (4, .bad), (5, .int .u64 n0), (6, .bad), (7, .bad), (10, .int .i64 (if (10 : Int) < (b.length : Int) then (10 : Int) else (b.length : Int))), (11, .int .i64 v11), (12, .bad), (24, .bad), (33, .bad), (39, .bad)], [], [], 0⟩ (blockQ 0 (seqQ Pg 46 0 (.seq (.reg none i64_R14) .ret) (qf_64 r))) := by
  unfold m_pack_ReadUint_l1_B at h
  refine LWp.stepC i64_L0.eq_1 ?_
  refine Wp.seq (regP (seqN (Wp.seq ?_)))
  replace h := ifS h; rcases h with ⟨g1, h⟩ | ⟨g1, h⟩
  · refine condTP (Wp.skip (seqN (Wp.seq (Wp.block (Wp.seq ?_)))))
    refine regP (seqN (Wp.seq ?_))
    replace h := bndS h; obtain ⟨e, g2, h⟩ := h
    refine regP (seqN (Wp.seq (Wp.seq ?_)))
    replace h := ifS h; rcases h with ⟨g3, h⟩ | ⟨g3, h⟩
    · refine regP (seqN ?_)
      exact jumpK [.kill [12]] (w_m_pack_ReadUint_k1 hrec_m_pack_ReadUint_l1 h)
    · refine regP (seqN ?_)
      exact jumpK [.kill [12]] (w_m_pack_ReadUint_k1 hrec_m_pack_ReadUint_l1 h)
  · refine condFP (Wp.out (seqO (loopO (blockO (seqN ?_)))))
    exact jumpK [.kill [0, 5, 10, 11, 12]] (w_m_pack_ReadUint_k3 h)
theorem w_m_pack_ReadUint_l1 {b : (List Int)} {r : (Int × (List Int) × Int)}   : ∀ (n : Nat) {n0 : Int} {v11 : Int}, m_pack_ReadUint_l1  b n n0 v11 = some r → LWp Pg 46 0 i64_L0 ⟨[(0, sl (ci .u8) b), (2, .bad), (3, .bad), (4, .bad), (5, .int .u64 n0), (6, .bad), (7, .bad), (10, .int .i64 (if (10 : Int) < (b.length : Int) then (10 : Int) else (b.length : Int))), (11, .int .i64 v11), (12, .bad), (24, .bad), (33, .bad), (39, .bad)], [], [], 0⟩ (blockQ 0 (seqQ Pg 46 0 (.seq (.reg none i64_R14) .ret) (qf_64 r))) := by
  intro n
  induction n with
  | zero => intro n0 v11 h; unfold m_pack_ReadUint_l1 at h; cases h
  | succ n ih => intro n0 v11 h; unfold m_pack_ReadUint_l1 at h; exact w_m_pack_ReadUint_l1_B  ih h
theorem w_m_pack_ReadUint {b : (List Int)} {r : (Int × (List Int) × Int)}   (h : m_pack_ReadUint b = some r) : Spec Pg 64 [sl (ci .u8) b] [] 0 (.tup [.int .u64 r.1, sl (ci .u8) r.2.1, .int .i64 r.2.2]) [] 0 := by
  refine Spec.intro Go.Proofs.Try.func64 i64_ok (le_of_ble rfl) ?_
  show Wp Pg 46 0 i64_B ⟨argEnv [sl (ci .u8) b] i64_V, [], [], 0⟩ (qf_64 r)
  unfold m_pack_ReadUint at h
  unfold i64_B
  refine weakP [] ?_
  refine Wp.seq (regP (seqN (Wp.seq ?_)))
  refine regP (seqN (Wp.seq (Wp.seq ?_)))
  refine regP (seqN (Wp.block (Wp.loop ?_)))
  exact jumpL [.kill [2, 3, 4, 6, 7, 12, 24, 33, 39]] (w_m_pack_ReadUint_l1 _ h)
/-! funicular/pack.ReadBytes -/
noncomputable abbrev qf_65 (r : ((List Int) × (List Int) × Int)) : Ex → St → Prop := FinQ 0 [.tmp 2, .tmp 3, .tmp 4] (.tup [sl (ci .u8) r.1, sl (ci .u8) r.2.1, .int .i64 r.2.2]) [] 0
theorem w_m_pack_ReadBytes {b : (List Int)} {r : ((List Int) × (List Int) × Int)}   (h : m_pack_ReadBytes b = some r) : Spec Pg 65 [sl (ci .u8) b] [] 0 (.tup [sl (ci .u8) r.1, sl (ci .u8) r.2.1, .int .i64 r.2.2]) [] 0 := by
  refine Spec.intro Go.Proofs.Try.func65 i65_ok (le_of_ble rfl) ?_
  show Wp Pg 29 0 i65_B ⟨argEnv [sl (ci .u8) b] i65_V, [], [], 0⟩ (qf_65 r)
  unfold m_pack_ReadBytes at h
  unfold i65_B
  refine weakP [] ?_
  refine Wp.seq (regP (seqN (Wp.seq (Wp.reg ?_))))
  replace h := bndS h; obtain ⟨r0, g1, h⟩ := h
  refine chunkT 2 (tab_cons (w_m_pack_ReadUint g1) (tab_nil _)) ?_
  refine lastT (tab_nil _) (seqN (Wp.seq (Wp.seq ?_)))
  refine regP (seqN ?_)
  replace h := ifS h; rcases h with ⟨g2, h⟩ | ⟨g2, h⟩
  · replace h := retS h; subst h
    refine condTP (Wp.seq ?_)
    refine regP (seqN ?_)
    refine weakP [.at 2 .frz, .at 3 .frz] (Wp.ret (seqR ?_))
    exact finP
  · refine condFP (Wp.skip (seqN (Wp.seq (Wp.seq ?_))))
    refine regP (seqN ?_)
    replace h := ifS h; rcases h with ⟨g3, h⟩ | ⟨g3, h⟩
    · replace h := retS h; subst h
      refine condTP (Wp.seq ?_)
      refine regP (seqN ?_)
      refine weakP [.at 2 .frz, .at 3 .frz] (Wp.ret (seqR ?_))
      exact finP
    · refine condFP (Wp.skip (seqN (Wp.seq ?_)))
      replace h := bndS h; obtain ⟨l, g4, h⟩ := h
      replace h := bndS h; obtain ⟨l_1, g5, h⟩ := h
      replace h := retS h; subst h
      refine drawP [] mixed (clsN _) (seqN ?_)
      refine weakP [.at 2 .frz] (Wp.ret ?_)
      exact finP
/-! funicular/pack.ReadInt -/
noncomputable abbrev qf_66 (r : (Int × (List Int) × Int)) : Ex → St → Prop := FinQ 0 [.tmp 2, .tmp 3, .tmp 4] (.tup [.int .i64 r.1, sl (ci .u8) r.2.1, .int .i64 r.2.2]) [] 0
theorem w_m_pack_ReadInt {b : (List Int)} {r : (Int × (List Int) × Int)}   (h : m_pack_ReadInt b = some r) : Spec Pg 66 [sl (ci .u8) b] [] 0 (.tup [.int .i64 r.1, sl (ci .u8) r.2.1, .int .i64 r.2.2]) [] 0 := by
  refine Spec.intro Go.Proofs.Try.func66 i66_ok (le_of_ble rfl) ?_
  show Wp Pg 24 0 i66_B ⟨argEnv [sl (ci .u8) b] i66_V, [], [], 0⟩ (qf_66 r)
  unfold m_pack_ReadInt at h
  unfold i66_B
  refine weakP [] ?_
  refine Wp.seq (regP (seqN (Wp.seq (Wp.reg ?_))))
  replace h := bndS h; obtain ⟨r0, g1, h⟩ := h
  replace h := retS h; subst h
  refine chunkT 2 (tab_cons (w_m_pack_ReadUint g1) (tab_nil _)) ?_
  refine lastT (tab_nil _) (seqN (Wp.seq ?_))
  refine regP (seqN (Wp.ret ?_))
  exact finP
/-! funicular/vars.Read -/
noncomputable abbrev qf_20 (r : (TVars × (List Int) × Int)) : Ex → St → Prop := FinQ 0 [.cell 2 true 2, .tmp 3, .tmp 4] (.tup [.agg [sl cs r.1.Names, sl (ci .i64) r.1.Vals], sl (ci .u8) r.2.1, .int .i64 r.2.2]) [] 0
theorem w_m_vars_Read_k1 {b_2 : (List Int)} {v_0_1 : (List ByteArray)} {v_1_1 : (List Int)} {r : (TVars × (List Int) × Int)}   (h : m_vars_Read_k1 b_2 v_0_1 v_1_1 = some r) : Wp Pg 72 0 (.seq (.seq (.reg none i20_R17) (.seq (.reg none i20_R18) (.cond (.t 67) (.seq (.reg none i20_R19) .ret) .skip))) (.seq (.reg none i20_R20) .ret)) ⟨[(0, sl (ci .u8) b_2), (2, .ptr 0 0), (3, .bad), (4, .bad), (5, .bad), (6, .bad), (7, .ptr 1 0), (8, .bad), (9, .bad), (10, .bad), (11, .bad), (12, .bad), (20, .bad), (24, .bad), (26, .bad), (27, .bad), (28, .bad), (36, .bad), (46, .bad), (67, .bad)], [], [(0, .box [.nil, .nil]), (1, .box [.own 1 2 0 v_0_1.length false, .own 1 3 0 v_1_1.length false]), (2, .arr 1 (List.map cs v_0_1) 0), (3, .arr 1 (List.map (ci .i64) v_1_1) 0)], 4⟩ (qf_20 r) := by
  unfold m_vars_Read_k1 at h
  refine Wp.seq (Wp.seq (Wp.reg ?_))
  replace h := bndS h; obtain ⟨r0_3, g11, h⟩ := h
  refine chunkT 2 (tab_cons (w_m_vars_Check g11) (tab_nil _)) ?_
  refine lastT (tab_nil _) (seqN (Wp.seq ?_))
  refine regP (seqN ?_)
  replace h := ifS h; rcases h with ⟨g12, h⟩ | ⟨g12, h⟩
  · replace h := retS h; subst h
    refine condTP (Wp.seq ?_)
    refine regP (seqN ?_)
    refine weakP [.cell 2 0 .frz, .cell 2 1 .frz, .at 3 .frz] (Wp.ret (seqR ?_))
    exact finP
  · replace h := retS h; subst h
    refine condFP (Wp.skip (seqN (Wp.seq ?_)))
    refine regP (seqN ?_)
    refine weakP [.cell 2 0 .frz, .cell 2 1 .frz] (Wp.ret ?_)
    exact finP
theorem w_m_vars_Read_l1_B {r0 : (Int × (List Int) × Int)} {r : (TVars × (List Int) × Int)}   {rec_m_vars_Read_l1 : (List Int) → Int → (List ByteArray) → (List Int) → Option (TVars × (List Int) × Int)} (hrec_m_vars_Read_l1 : ∀ {b_1 : (List Int)} {v27 : Int} {v_0 : (List ByteArray)} {v_1 : (List Int)}, rec_m_vars_Read_l1 b_1 v27 v_0 v_1 = some r → LWp Pg 72 0 i20_L0 ⟨[(0, sl (ci .u8) b_1), (2, .ptr 0 0), (3, .bad), (4, .bad), (5, .bad), (6, .bad), (7, .ptr 1 0), (8, .bad), (9, .bad), (10, .bad), (11, .bad), (12, .bad), (20, .bad), (24, .bad), (26, .int .u64 r0.1), (27, .int .u64 v27), (28, .bad), (36, .bad), (46, .bad), (67, .bad)], [], [(0, .box [.nil, .nil]), (1, .box [.own 1 2 0 v_0.length false, .own 1 3 0 v_1.length false]), (2, .arr 1 (List.map cs v_0) 0), (3, .arr 1 (List.map (ci .i64) v_1) 0)], 4⟩ (blockQ 0 (seqQ Pg 72 0 (.seq (.seq (.reg none i20_R17) (.seq (.reg none i20_R18) (.cond (.t 67) (.seq (.reg none i20_R19) .ret) .skip))) (.seq (.reg none i20_R20) .ret)) (qf_20 r)))) {b_1 : (List Int)} {v27 : Int} {v_0 : (List ByteArray)} {v_1 : (List Int)} (h : m_vars_Read_l1_B  r0 rec_m_vars_Read_l1 b_1 v27 v_0 v_1 = some r) : LWp Pg 72 0 i20_L0 ⟨[(0, sl (ci .u8) b_1), (2, .ptr 0 0), (3, .bad), (4, .bad), (5, .bad), (6, .bad), (7, .ptr 1 0), (8, .bad), (9, .bad), (10, .bad), (11, .bad), (12, .bad), (20, .bad), (24, .bad), (26, .int .u64 r0.1), (27, .int .u64 v27), (28, .bad), (36, .bad), (46, .bad), (67, .bad)], [], [(0, .box [.nil, .nil]), (1, .box [.own 1 2 0 v_0.length false, .own 1 3 0 v_1.length false]), (2, .arr 1 (List.map cs v_0) 0), (3, .arr 1 (List.map (ci .i64) v_1) 0)], 4⟩ (blockQ 0 (seqQ Pg 72 0 (.seq (.seq (.reg none i20_R17) (.seq (.reg none i20_R18) (.cond (.t 67) (.seq (.reg none i20_R19) .ret) .skip))) (.seq (.reg none i20_R20) .ret)) (qf_20 r))) := by
  unfold m_vars_Read_l1_B at h
  refine LWp.stepC i20_L0.eq_1 ?_
  refine Wp.seq (regP (seqN (Wp.seq ?_)))
  replace h := ifS h; rcases h with ⟨g4, h⟩ | ⟨g4, h⟩
  · refine condTP (Wp.skip (seqN (Wp.seq (Wp.block (Wp.seq (Wp.reg ?_))))))
    replace h := bndS h; obtain ⟨r0_1, g5, h⟩ := h
    refine chunkT 2 (tab_cons (w_m_pack_ReadBytes g5) (tab_nil _)) ?_
    refine lastT (tab_nil _) (seqN (Wp.seq (Wp.seq ?_)))
    refine regP (seqN ?_)
    replace h := ifS h; rcases h with ⟨g6, h⟩ | ⟨g6, h⟩
    · replace h := retS h; subst h
      refine condTP (Wp.seq ?_)
      refine regP (seqN ?_)
      refine weakP [.cell 2 0 .frz, .cell 2 1 .frz, .at 3 .frz] (Wp.ret (seqR (blockR (seqR (loopR (blockR (seqR ?_)))))))
      exact finP
    · refine condFP (Wp.skip (seqN (Wp.seq (Wp.reg ?_))))
      replace h := bndS h; obtain ⟨r0_2, g7, h⟩ := h
      refine chunkT 2 (tab_cons (w_m_pack_ReadInt g7) (tab_nil _)) ?_
      refine lastT (tab_nil _) (seqN (Wp.seq (Wp.seq ?_)))
      refine regP (seqN ?_)
      replace h := ifS h; rcases h with ⟨g8, h⟩ | ⟨g8, h⟩
      · replace h := retS h; subst h
        refine condTP (Wp.seq ?_)
        refine regP (seqN ?_)
        refine weakP [.cell 2 0 .frz, .cell 2 1 .frz, .at 3 .frz] (Wp.ret (seqR (blockR (seqR (loopR (blockR (seqR ?_)))))))
        exact finP
      · refine condFP (Wp.skip (seqN ?_))
        replace h := reqS h; obtain ⟨g9, h⟩ := h
        replace h := reqS h; obtain ⟨g10, h⟩ := h
        refine drawP [] mixed (clsN _) (blockN (seqN ?_))
        refine regP (loopN ?_)
        exact jumpL [.kill [8, 9, 10, 11, 28, 36, 46], .tidy] (hrec_m_vars_Read_l1 h)
  · refine condFP (Wp.out (seqO (loopO (blockO (seqN ?_)))))
    exact jumpK [.kill [26, 27, 28]] (w_m_vars_Read_k1 h)
theorem w_m_vars_Read_l1 {r0 : (Int × (List Int) × Int)} {r : (TVars × (List Int) × Int)}   : ∀ (n : Nat) {b_1 : (List Int)} {v27 : Int} {v_0 : (List ByteArray)} {v_1 : (List Int)}, m_vars_Read_l1  r0 n b_1 v27 v_0 v_1 = some r → LWp Pg 72 0 i20_L0 ⟨[(0, sl (ci .u8) b_1), (2, .ptr 0 0), (3, .bad), (4, .bad), (5, .bad), (6, .bad), (7, .ptr 1 0), (8, .bad), (9, .bad), (10, .bad), (11, .bad), (12, .bad), (20, .bad), (24, .bad), (26, .int .u64 r0.1), (27, .int .u64 v27), (28, .bad), (36, .bad), (46, .bad), (67, .bad)], [], [(0, .box [.nil, .nil]), (1, .box [.own 1 2 0 v_0.length false, .own 1 3 0 v_1.length false]), (2, .arr 1 (List.map cs v_0) 0), (3, .arr 1 (List.map (ci .i64) v_1) 0)], 4⟩ (blockQ 0 (seqQ Pg 72 0 (.seq (.seq (.reg none i20_R17) (.seq (.reg none i20_R18) (.cond (.t 67) (.seq (.reg none i20_R19) .ret) .skip))) (.seq (.reg none i20_R20) .ret)) (qf_20 r))) := by
  intro n
  induction n with
  | zero => intro b_1 v27 v_0 v_1 h; unfold m_vars_Read_l1 at h; cases h
  | succ n ih => intro b_1 v27 v_0 v_1 h; unfold m_vars_Read_l1 at h; exact w_m_vars_Read_l1_B  ih h
theorem w_m_vars_Read {b : (List Int)} {r : (TVars × (List Int) × Int)}   (h : m_vars_Read b = some r) : Spec Pg 20 [sl (ci .u8) b] [] 0 (.tup [.agg [sl cs r.1.Names, sl (ci .i64) r.1.Vals], sl (ci .u8) r.2.1, .int .i64 r.2.2]) [] 0 := by
  refine Spec.intro Go.Proofs.Try.func20 i20_ok (le_of_ble rfl) ?_
  show Wp Pg 72 0 i20_B ⟨argEnv [sl (ci .u8) b] i20_V, [], [], 0⟩ (qf_20 r)
  unfold m_vars_Read at h
  unfold i20_B
  refine weakP [] ?_
  refine Wp.seq (regP (seqN (Wp.seq (Wp.reg ?_))))
  replace h := bndS h; obtain ⟨r0, g1, h⟩ := h
  refine chunkT 2 (tab_cons (w_m_pack_ReadUint g1) (tab_nil _)) ?_
  refine lastT (tab_nil _) (seqN (Wp.seq (Wp.seq ?_)))
  refine regP (seqN ?_)
  replace h := ifS h; rcases h with ⟨g2, h⟩ | ⟨g2, h⟩
  · replace h := retS h; subst h
    refine condTP (Wp.seq ?_)
    refine regP (seqN ?_)
    refine weakP [.cell 2 0 .frz, .cell 2 1 .frz, .at 3 .frz] (Wp.ret (seqR ?_))
    exact finP
  · refine condFP (Wp.skip (seqN (Wp.seq (Wp.seq ?_))))
    refine regP (seqN ?_)
    replace h := ifS h; rcases h with ⟨g3, h⟩ | ⟨g3, h⟩
    · replace h := retS h; subst h
      refine condTP (Wp.seq ?_)
      refine regP (seqN ?_)
      refine weakP [.cell 2 0 .frz, .cell 2 1 .frz, .at 3 .frz] (Wp.ret (seqR ?_))
      exact finP
    · refine condFP (Wp.skip (seqN (Wp.seq ?_)))
      refine regP (seqN (Wp.seq (Wp.seq ?_)))
      refine regP (seqN (Wp.block (Wp.loop ?_)))
      exact jumpL [.kill [3, 4, 5, 6, 8, 9, 10, 11, 12, 20, 24, 28, 36, 46, 67], .cell 7 0 (.virt 1), .cell 7 1 (.virt 1), .tidy] (w_m_vars_Read_l1 _ h)
/-! funicular/funicularref02.Same -/
noncomputable abbrev qf_21 (r : Bool) : Ex → St → Prop := FinQ 0 [.tmp 4] (.bool r) [] 0
theorem w_m_ref02_Same {a : (List Int)} {b : (List Int)} {r : Bool}   (h : m_ref02_Same a b = some r) : Spec Pg 21 [sl (ci .u8) a, sl (ci .u8) b] [] 0 (.bool r) [] 0 := by
  refine Spec.intro Go.Proofs.Try.func21 i21_ok (le_of_ble rfl) ?_
  show Wp Pg 10 0 i21_B ⟨argEnv [sl (ci .u8) a, sl (ci .u8) b] i21_V, [], [], 0⟩ (qf_21 r)
  unfold m_ref02_Same at h
  unfold i21_B
  refine weakP [] ?_
  replace h := retS h; subst h
  refine Wp.seq (regP (seqN (Wp.seq ?_)))
  refine regP (seqN (Wp.ret ?_))
  exact finP
/-! funicular/funicularlaw09.VarsBack -/
noncomputable abbrev qf_4 (r : Bool) : Ex → St → Prop := FinQ 0 [.tmp 4] (.bool r) [] 0
theorem w_m_law09_VarsBack_k3 {b : (List Int)} {r : Bool}   (h : m_law09_VarsBack_k3 b = some r) : Wp Pg 69 0 (.seq (.reg none i4_R9) (.seq (.reg none i4_R10) .ret)) ⟨[(0, .bad), (1, sl (ci .u8) b), (2, .bad), (4, .bad), (5, .bad), (6, .bad), (7, .bad), (8, .bad), (9, .bad), (10, .bad), (11, .bad), (19, .bad), (23, .bad), (49, .bad)], [], [], 0⟩ (qf_4 r) := by
  unfold m_law09_VarsBack_k3 at h
  refine Wp.seq (Wp.reg ?_)
  replace h := bndS h; obtain ⟨r0_7, g16, h⟩ := h
  refine chunkT 2 (tab_cons (w_m_vars_Read g16) (tab_nil _)) ?_
  refine lastT (tab_nil _) (seqN (Wp.seq (Wp.reg ?_)))
  replace h := ifS h; rcases h with ⟨g17, h⟩ | ⟨g17, h⟩
  · replace h := bndS h; obtain ⟨r0_8, g18, h⟩ := h
    replace h := retS h; subst h
    refine chunkT 12 (tab_cons (w_m_law09_works g18) (tab_nil _)) ?_
    refine lastT (tab_nil _) (seqN (Wp.ret ?_))
    exact finP
  · replace h := bndS h; obtain ⟨r0_9, g19, h⟩ := h
    refine chunkF 5 (tab_cons (w_m_vars_Put g19) (tab_nil _)) ?_
    replace h := reqS h; obtain ⟨g20, h⟩ := h
    replace h := bndS h; obtain ⟨r0_10, g21, h⟩ := h
    refine chunkT 4 (tab_cons (w_m_ref02_Same g21) (tab_nil _)) ?_
    replace h := ifS h; rcases h with ⟨g22, h⟩ | ⟨g22, h⟩
    · replace h := bndS h; obtain ⟨r0_11, g23, h⟩ := h
      replace h := retS h; subst h
      refine chunkT 3 (tab_cons (w_m_law09_works g23) (tab_nil _)) ?_
      refine lastT (tab_nil _) (seqN (Wp.ret ?_))
      exact finP
    · replace h := retS h; subst h
      refine lastT (tab_nil _) (seqN (Wp.ret ?_))
      exact finP
theorem w_m_law09_VarsBack_k2 {b : (List Int)} {v49 : Bool} {r : Bool}   (h : m_law09_VarsBack_k2 b v49 = some r) : Wp Pg 69 0 (.cond (.t 49) (.seq (.reg none i4_R8) .ret) .skip) ⟨[(0, .bad), (1, sl (ci .u8) b), (2, .bad), (4, .bad), (5, .bad), (6, .bad), (7, .bad), (8, .bad), (9, .bad), (10, .bad), (11, .bad), (19, .bad), (23, .bad), (49, .bool v49)], [], [], 0⟩ (seqQ Pg 69 0 (.seq (.reg none i4_R9) (.seq (.reg none i4_R10) .ret)) (qf_4 r)) := by
  unfold m_law09_VarsBack_k2 at h
  replace h := ifS h; rcases h with ⟨g15, h⟩ | ⟨g15, h⟩
  · replace h := retS h; subst h
    refine condTP (Wp.seq ?_)
    refine regP (seqN (Wp.ret (seqR ?_)))
    exact finP
  · refine condFP (Wp.skip (seqN ?_))
    exact jumpK [.kill [49]] (w_m_law09_VarsBack_k3 h)
theorem w_m_law09_VarsBack_k1 {v : TVars} {b : (List Int)} {v19 : Bool} {r : Bool}   (h : m_law09_VarsBack_k1 v b v19 = some r) : Wp Pg 69 0 (.cond (.t 19) (.seq (.reg none i4_R2) .ret) .skip) ⟨[(0, .bad), (1, sl (ci .u8) b), (2, .ptr 0 0), (4, .bad), (5, .bad), (6, .bad), (7, .bad), (8, .bad), (9, .bad), (10, .bad), (11, .bad), (19, .bool v19), (23, .bad), (49, .bad)], [], [(0, .box [sl cs v.Names, sl (ci .i64) v.Vals])], 1⟩ (seqQ Pg 69 0 (.seq (.seq (.reg none i4_R3) (.cond (.t 23) (.seq (.reg none i4_R4) (.seq (.reg none i4_R5) (.seq (.reg none i4_R6) (.seq (.reg none i4_R7) (.cond (.t 49) (.seq (.reg none i4_R8) .ret) .skip))))) .skip)) (.seq (.reg none i4_R9) (.seq (.reg none i4_R10) .ret))) (qf_4 r)) := by
  unfold m_law09_VarsBack_k1 at h
  replace h := ifS h; rcases h with ⟨g3, h⟩ | ⟨g3, h⟩
  · refine condTP (Wp.seq (Wp.reg ?_))
    replace h := bndS h; obtain ⟨r0_1, g4, h⟩ := h
    replace h := retS h; subst h
    refine chunkT 1 (tab_cons (w_m_law09_works g4) (tab_nil _)) ?_
    refine lastT (tab_nil _) (seqN (Wp.ret (seqR ?_)))
    exact finP
  · refine condFP (Wp.skip (seqN (Wp.seq (Wp.seq (Wp.reg ?_)))))
    replace h := bndS h; obtain ⟨r0_2, g5, h⟩ := h
    refine chunkT 2 (tab_cons (w_m_ref09_Check g5) (tab_nil _)) ?_
    refine lastT (tab_nil _) (seqN ?_)
    replace h := ifS h; rcases h with ⟨g6, h⟩ | ⟨g6, h⟩
    · refine condTP (Wp.seq ?_)
      refine regP (seqN (Wp.seq (Wp.reg ?_)))
      replace h := bndS h; obtain ⟨r0_3, g7, h⟩ := h
      refine chunkF 3 (tab_cons (w_m_vars_Put g7) (tab_nil _)) ?_
      replace h := reqS h; obtain ⟨g8, h⟩ := h
      replace h := reqS h; obtain ⟨g9, h⟩ := h
      refine lastT (tab_nil _) (seqN (Wp.seq (Wp.reg ?_)))
      replace h := bndS h; obtain ⟨r0_4, g10, h⟩ := h
      refine chunkT 2 (tab_cons (w_m_vars_Read g10) (tab_nil _)) ?_
      refine lastT (tab_nil _) (seqN (Wp.seq (Wp.reg ?_)))
      replace h := ifS h; rcases h with ⟨g11, h⟩ | ⟨g11, h⟩
      · refine lastT (tab_nil _) (seqN ?_)
        exact jumpK [.kill [2, 5, 6, 7, 8, 19, 23], .tidy] (w_m_law09_VarsBack_k2 h)
      · replace h := bndS h; obtain ⟨r0_5, g12, h⟩ := h
        refine chunkT 6 (tab_cons (w_m_ref09_Same g12) (tab_nil _)) ?_
        replace h := ifS h; rcases h with ⟨g13, h⟩ | ⟨g13, h⟩
        · replace h := bndS h; obtain ⟨r0_6, g14, h⟩ := h
          refine chunkT 6 (tab_cons (w_m_ref02_Same g14) (tab_nil _)) ?_
          refine lastT (tab_nil _) (seqN ?_)
          exact jumpK [.kill [2, 5, 6, 7, 8, 19, 23], .tidy] (w_m_law09_VarsBack_k2 h)
        · refine lastT (tab_nil _) (seqN ?_)
          exact jumpK [.kill [2, 5, 6, 7, 8, 19, 23], .tidy] (w_m_law09_VarsBack_k2 h)
    · refine condFP (Wp.skip (seqN ?_))
      exact jumpK [.kill [2, 19, 23], .tidy] (w_m_law09_VarsBack_k3 h)
theorem w_m_law09_VarsBack {v : TVars} {b : (List Int)} {r : Bool}   (h : m_law09_VarsBack v b = some r) : Spec Pg 4 [.agg [sl cs v.Names, sl (ci .i64) v.Vals], sl (ci .u8) b] [] 0 (.bool r) [] 0 := by
  refine Spec.intro Go.Proofs.Try.func4 i4_ok (le_of_ble rfl) ?_
  show Wp Pg 69 0 i4_B ⟨argEnv [.agg [sl cs v.Names, sl (ci .i64) v.Vals], sl (ci .u8) b] i4_V, [], [], 0⟩ (qf_4 r)
  unfold m_law09_VarsBack at h
  unfold i4_B
  refine weakP [] ?_
  refine Wp.seq (regP (seqN (Wp.seq (Wp.seq (Wp.reg ?_)))))
  replace h := bndS h; obtain ⟨r0, g1, h⟩ := h
  refine chunkT 2 (tab_cons (w_m_law09_light g1) (tab_nil _)) ?_
  replace h := ifS h; rcases h with ⟨g2, h⟩ | ⟨g2, h⟩
  · refine lastT (tab_nil _) (seqN ?_)
    exact jumpK [.kill [0, 4, 5, 6, 7, 8, 9, 10, 11, 23, 49]] (w_m_law09_VarsBack_k1 h)
  · refine lastT (tab_nil _) (seqN ?_)
    exact jumpK [.kill [0, 4, 5, 6, 7, 8, 9, 10, 11, 23, 49]] (w_m_law09_VarsBack_k1 h)
end Go.Proofs.Ytjhnlgelcfplaaa.R
