/- The program's functions answer what the models answer: 2. -/
import Derived.Test.YtgoachcogmlhcaaMW0
import Derived.Test.YtgoachcogmlhcaaMW1
set_option maxRecDepth 100000
set_option linter.unusedVariables false
set_option linter.unusedSimpArgs false
set_option linter.defProp false
noncomputable section
namespace Go.Proofs.Ytgoachcogmlhcaa.R
open Go Nat
/-! funicular/funicularref13.Check -/
noncomputable abbrev qf_21 (r : Int) : Ex → St → Prop := FinQ 0 [.tmp 2] (.int .i64 r) [] 0
theorem w_m_ref13_Check_k3 {l : TLog} {i : Int} {v84 : Bool} {r : Int} {rec_m_ref13_Check_l1 : Int → Option Int} (hrec_m_ref13_Check_l1 : ∀ {i : Int}, rec_m_ref13_Check_l1 i = some r → LWp Pg 85 0 i21_L0 ⟨[(0, .bad), (1, .ptr 0 0), (2, .bad), (3, .int .i64 (1099511627776 : Int)), (4, .int .i64 i), (5, .bad), (25, .bad), (43, .bad), (48, .bad), (84, .bad)], [], [(0, .box [.int .i64 l.Base, .int .i64 l.BaseTerm, sl TEntry.c l.Entries])], 1⟩ (blockQ 0 (seqQ Pg 85 0 (.seq (.reg none i21_R12) .ret) (qf_21 r)))) (h : m_ref13_Check_k3 rec_m_ref13_Check_l1 i v84 = some r) : Wp Pg 85 0 (.cond (.t 84) (.seq (.reg none i21_R10) .ret) .skip) ⟨[(0, .bad), (1, .ptr 0 0), (2, .bad), (3, .int .i64 (1099511627776 : Int)), (4, .int .i64 i), (5, .bad), (25, .bad), (43, .bad), (48, .bad), (84, .bool v84)], [], [(0, .box [.int .i64 l.Base, .int .i64 l.BaseTerm, sl TEntry.c l.Entries])], 1⟩ (blockQ 1 (seqQ Pg 85 0 (.reg none i21_R11) (loopQ Pg 85 0 i21_L0 (blockQ 0 (seqQ Pg 85 0 (.seq (.reg none i21_R12) .ret) (qf_21 r)))))) := by
  unfold m_ref13_Check_k3 at h
  replace h := ifS h; rcases h with ⟨g17, h⟩ | ⟨g17, h⟩
  · replace h := retS h; subst h
    refine condTP (Wp.seq ?_)
    refine regP (seqN (Wp.ret (blockR (seqR (loopR (blockR (seqR ?_)))))))
    exact finP
  · refine condFP (Wp.skip (blockN (seqN ?_)))
    refine regP (loopN ?_)
    exact jumpL [.kill [84]] (hrec_m_ref13_Check_l1 h)
theorem w_m_ref13_Check_l1_B {l : TLog} {r : Int}   {rec_m_ref13_Check_l1 : Int → Option Int} (hrec_m_ref13_Check_l1 : ∀ {i : Int}, rec_m_ref13_Check_l1 i = some r → LWp Pg 85 0 i21_L0 ⟨[(0, .bad), (1, .ptr 0 0), (2, .bad), (3, .int .i64 (1099511627776 : Int)), (4, .int .i64 i), (5, .bad), (25, .bad), (43, .bad), (48, .bad), (84, .bad)], [], [(0, .box [.int .i64 l.Base, .int .i64 l.BaseTerm, sl TEntry.c l.Entries])], 1⟩ (blockQ 0 (seqQ Pg 85 0 (.seq (.reg none i21_R12) .ret) (qf_21 r)))) {i : Int} (h : m_ref13_Check_l1_B  l rec_m_ref13_Check_l1 i = some r) : LWp Pg 85 0 i21_L0 ⟨[(0, .bad), (1, .ptr 0 0), (2, .bad), (3, .int .i64 (1099511627776 : Int)), (4, .int .i64 i), (5, .bad), (25, .bad), (43, .bad), (48, .bad), (84, .bad)], [], [(0, .box [.int .i64 l.Base, .int .i64 l.BaseTerm, sl TEntry.c l.Entries])], 1⟩ (blockQ 0 (seqQ Pg 85 0 (.seq (.reg none i21_R12) .ret) (qf_21 r))) := by
  unfold m_ref13_Check_l1_B at h
  refine LWp.stepC i21_L0.eq_1 ?_
  refine Wp.seq (Wp.seq (regP (seqN ?_)))
  replace h := ifS h; rcases h with ⟨g10, h⟩ | ⟨g10, h⟩
  · refine condTP (Wp.skip (seqN (Wp.seq (Wp.block (Wp.seq ?_)))))
    replace h := bndS h; obtain ⟨e, g11, h⟩ := h
    refine regP (seqN (Wp.seq ?_))
    replace h := ifS h; rcases h with ⟨g12, h⟩ | ⟨g12, h⟩
    · refine regP (seqN ?_)
      exact jumpK [.kill [5, 48]] (w_m_ref13_Check_k3 (l := l) hrec_m_ref13_Check_l1 h)
    · replace h := ifS h; rcases h with ⟨g13, h⟩ | ⟨g13, h⟩
      · refine regP (seqN ?_)
        exact jumpK [.kill [5, 48]] (w_m_ref13_Check_k3 (l := l) hrec_m_ref13_Check_l1 h)
      · replace h := ifS h; rcases h with ⟨g14, h⟩ | ⟨g14, h⟩
        · refine regP (seqN ?_)
          exact jumpK [.kill [5, 48]] (w_m_ref13_Check_k3 (l := l) hrec_m_ref13_Check_l1 h)
        · replace h := ifS h; rcases h with ⟨g15, h⟩ | ⟨g15, h⟩
          · replace h := bndS h; obtain ⟨e_1, g16, h⟩ := h
            refine regP (seqN ?_)
            exact jumpK [.kill [5, 48]] (w_m_ref13_Check_k3 (l := l) hrec_m_ref13_Check_l1 h)
          · refine regP (seqN ?_)
            exact jumpK [.kill [5, 48]] (w_m_ref13_Check_k3 (l := l) hrec_m_ref13_Check_l1 h)
  · replace h := retS h; subst h
    refine condFP (Wp.out (seqO (loopO (blockO (seqN (Wp.seq ?_))))))
    refine regP (seqN (Wp.ret ?_))
    exact finP
theorem w_m_ref13_Check_l1 {l : TLog} {r : Int}   : ∀ (n : Nat) {i : Int}, m_ref13_Check_l1  l n i = some r → LWp Pg 85 0 i21_L0 ⟨[(0, .bad), (1, .ptr 0 0), (2, .bad), (3, .int .i64 (1099511627776 : Int)), (4, .int .i64 i), (5, .bad), (25, .bad), (43, .bad), (48, .bad), (84, .bad)], [], [(0, .box [.int .i64 l.Base, .int .i64 l.BaseTerm, sl TEntry.c l.Entries])], 1⟩ (blockQ 0 (seqQ Pg 85 0 (.seq (.reg none i21_R12) .ret) (qf_21 r))) := by
  intro n
  induction n with
  | zero => intro i h; unfold m_ref13_Check_l1 at h; cases h
  | succ n ih => intro i h; unfold m_ref13_Check_l1 at h; exact w_m_ref13_Check_l1_B  ih h
theorem w_m_ref13_Check_k2 {l : TLog} {v43 : Bool} {r : Int}   (h : m_ref13_Check_k2 l v43 = some r) : Wp Pg 85 0 (.cond (.t 43) (.seq (.reg none i21_R5) .ret) .skip) ⟨[(0, .bad), (1, .ptr 0 0), (2, .bad), (3, .int .i64 (1099511627776 : Int)), (4, .bad), (5, .bad), (25, .bad), (43, .bool v43), (48, .bad), (84, .bad)], [], [(0, .box [.int .i64 l.Base, .int .i64 l.BaseTerm, sl TEntry.c l.Entries])], 1⟩ (seqQ Pg 85 0 (.seq (.seq (.reg none i21_R6) (.block 0 (.loop i21_L0))) (.seq (.reg none i21_R12) .ret)) (qf_21 r)) := by
  unfold m_ref13_Check_k2 at h
  replace h := ifS h; rcases h with ⟨g9, h⟩ | ⟨g9, h⟩
  · replace h := retS h; subst h
    refine condTP (Wp.seq ?_)
    refine regP (seqN (Wp.ret (seqR ?_)))
    exact finP
  · refine condFP (Wp.skip (seqN (Wp.seq (Wp.seq ?_))))
    refine regP (seqN (Wp.block (Wp.loop ?_)))
    exact jumpL [.kill [43]] (w_m_ref13_Check_l1 _ h)
theorem w_m_ref13_Check_k1 {l : TLog} {v25 : Bool} {r : Int}   (h : m_ref13_Check_k1 l v25 = some r) : Wp Pg 85 0 (.cond (.t 25) (.seq (.reg none i21_R3) .ret) .skip) ⟨[(0, .bad), (1, .ptr 0 0), (2, .bad), (3, .int .i64 (1099511627776 : Int)), (4, .bad), (5, .bad), (25, .bool v25), (43, .bad), (48, .bad), (84, .bad)], [], [(0, .box [.int .i64 l.Base, .int .i64 l.BaseTerm, sl TEntry.c l.Entries])], 1⟩ (seqQ Pg 85 0 (.seq (.seq (.reg none i21_R4) (.cond (.t 43) (.seq (.reg none i21_R5) .ret) .skip)) (.seq (.seq (.reg none i21_R6) (.block 0 (.loop i21_L0))) (.seq (.reg none i21_R12) .ret))) (qf_21 r)) := by
  unfold m_ref13_Check_k1 at h
  replace h := ifS h; rcases h with ⟨g4, h⟩ | ⟨g4, h⟩
  · replace h := retS h; subst h
    refine condTP (Wp.seq ?_)
    refine regP (seqN (Wp.ret (seqR ?_)))
    exact finP
  · refine condFP (Wp.skip (seqN (Wp.seq (Wp.seq ?_))))
    replace h := ifS h; rcases h with ⟨g5, h⟩ | ⟨g5, h⟩
    · replace h := ifS h; rcases h with ⟨g6, h⟩ | ⟨g6, h⟩
      · refine regP (seqN ?_)
        exact jumpK [.kill [25]] (w_m_ref13_Check_k2 h)
      · replace h := ifS h; rcases h with ⟨g7, h⟩ | ⟨g7, h⟩
        · refine regP (seqN ?_)
          exact jumpK [.kill [25]] (w_m_ref13_Check_k2 h)
        · refine regP (seqN ?_)
          exact jumpK [.kill [25]] (w_m_ref13_Check_k2 h)
    · replace h := ifS h; rcases h with ⟨g8, h⟩ | ⟨g8, h⟩
      · refine regP (seqN ?_)
        exact jumpK [.kill [25]] (w_m_ref13_Check_k2 h)
      · refine regP (seqN ?_)
        exact jumpK [.kill [25]] (w_m_ref13_Check_k2 h)
theorem w_m_ref13_Check {l : TLog} {r : Int}   (h : m_ref13_Check l = some r) : Spec Pg 21 [.agg [.int .i64 l.Base, .int .i64 l.BaseTerm, sl TEntry.c l.Entries]] [] 0 (.int .i64 r) [] 0 := by
  refine Spec.intro Go.Proofs.Try.func21 i21_ok (le_of_ble rfl) ?_
  show Wp Pg 85 0 i21_B ⟨argEnv [.agg [.int .i64 l.Base, .int .i64 l.BaseTerm, sl TEntry.c l.Entries]] i21_V, [], [], 0⟩ (qf_21 r)
  unfold m_ref13_Check at h
  unfold i21_B
  refine weakP [] ?_
  refine Wp.seq (regP (seqN (Wp.seq ?_)))
  refine regP (seqN (Wp.seq (Wp.seq ?_)))
  replace h := ifS h; rcases h with ⟨g1, h⟩ | ⟨g1, h⟩
  · refine regP (seqN ?_)
    exact jumpK [.kill [0, 2, 4, 5, 43, 48, 84]] (w_m_ref13_Check_k1 h)
  · replace h := ifS h; rcases h with ⟨g2, h⟩ | ⟨g2, h⟩
    · refine regP (seqN ?_)
      exact jumpK [.kill [0, 2, 4, 5, 43, 48, 84]] (w_m_ref13_Check_k1 h)
    · replace h := ifS h; rcases h with ⟨g3, h⟩ | ⟨g3, h⟩
      · refine regP (seqN ?_)
        exact jumpK [.kill [0, 2, 4, 5, 43, 48, 84]] (w_m_ref13_Check_k1 h)
      · refine regP (seqN ?_)
        exact jumpK [.kill [0, 2, 4, 5, 43, 48, 84]] (w_m_ref13_Check_k1 h)
/-! funicular/funicularref13.Last -/
noncomputable abbrev qf_25 (r : Int) : Ex → St → Prop := FinQ 0 [.tmp 2] (.int .i64 r) [] 0
theorem w_m_ref13_Last {l : TLog} {r : Int}   (h : m_ref13_Last l = some r) : Spec Pg 25 [.agg [.int .i64 l.Base, .int .i64 l.BaseTerm, sl TEntry.c l.Entries]] [] 0 (.int .i64 r) [] 0 := by
  refine Spec.intro Go.Proofs.Try.func25 i25_ok (le_of_ble rfl) ?_
  show Wp Pg 9 0 i25_B ⟨argEnv [.agg [.int .i64 l.Base, .int .i64 l.BaseTerm, sl TEntry.c l.Entries]] i25_V, [], [], 0⟩ (qf_25 r)
  unfold m_ref13_Last at h
  unfold i25_B
  refine weakP [] ?_
  replace h := retS h; subst h
  refine Wp.seq (regP (seqN (Wp.seq ?_)))
  refine regP (seqN (Wp.ret ?_))
  exact finP
/-! funicular/funicularref13.Term -/
noncomputable abbrev qf_36 (r : (Int × Bool)) : Ex → St → Prop := FinQ 0 [.tmp 4, .tmp 5] (.tup [.int .i64 r.1, .bool r.2]) [] 0
theorem w_m_ref13_Term_l1_B {l : TLog} {at0 : Int} {r : (Int × Bool)}   {rec_m_ref13_Term_l1 : Int → Option (Int × Bool)} (hrec_m_ref13_Term_l1 : ∀ {i : Int}, rec_m_ref13_Term_l1 i = some r → LWp Pg 33 0 i36_L0 ⟨[(0, .bad), (1, .int .i64 at0), (2, .ptr 0 0), (4, .bad), (5, .bad), (6, .int .i64 i), (10, .bad), (17, .bad), (26, .bad)], [], [(0, .box [.int .i64 l.Base, .int .i64 l.BaseTerm, sl TEntry.c l.Entries])], 1⟩ (blockQ 0 (seqQ Pg 33 0 (.seq (.reg none i36_R8) .ret) (qf_36 r)))) {i : Int} (h : m_ref13_Term_l1_B  l at0 rec_m_ref13_Term_l1 i = some r) : LWp Pg 33 0 i36_L0 ⟨[(0, .bad), (1, .int .i64 at0), (2, .ptr 0 0), (4, .bad), (5, .bad), (6, .int .i64 i), (10, .bad), (17, .bad), (26, .bad)], [], [(0, .box [.int .i64 l.Base, .int .i64 l.BaseTerm, sl TEntry.c l.Entries])], 1⟩ (blockQ 0 (seqQ Pg 33 0 (.seq (.reg none i36_R8) .ret) (qf_36 r))) := by
  unfold m_ref13_Term_l1_B at h
  refine LWp.stepC i36_L0.eq_1 ?_
  refine Wp.seq (Wp.seq (regP (seqN ?_)))
  replace h := ifS h; rcases h with ⟨g2, h⟩ | ⟨g2, h⟩
  · refine condTP (Wp.skip (seqN (Wp.seq (Wp.block (Wp.seq ?_)))))
    refine regP (seqN ?_)
    replace h := ifS h; rcases h with ⟨g3, h⟩ | ⟨g3, h⟩
    · refine condTP (Wp.seq ?_)
      replace h := bndS h; obtain ⟨e, g4, h⟩ := h
      replace h := retS h; subst h
      refine regP (seqN (Wp.ret (blockR (seqR (loopR (blockR (seqR ?_)))))))
      exact finP
    · refine condFP (Wp.skip (blockN (seqN ?_)))
      refine regP (loopN ?_)
      exact jumpL [.kill [17, 26]] (hrec_m_ref13_Term_l1 h)
  · replace h := retS h; subst h
    refine condFP (Wp.out (seqO (loopO (blockO (seqN (Wp.seq ?_))))))
    refine regP (seqN (Wp.ret ?_))
    exact finP
theorem w_m_ref13_Term_l1 {l : TLog} {at0 : Int} {r : (Int × Bool)}   : ∀ (n : Nat) {i : Int}, m_ref13_Term_l1  l at0 n i = some r → LWp Pg 33 0 i36_L0 ⟨[(0, .bad), (1, .int .i64 at0), (2, .ptr 0 0), (4, .bad), (5, .bad), (6, .int .i64 i), (10, .bad), (17, .bad), (26, .bad)], [], [(0, .box [.int .i64 l.Base, .int .i64 l.BaseTerm, sl TEntry.c l.Entries])], 1⟩ (blockQ 0 (seqQ Pg 33 0 (.seq (.reg none i36_R8) .ret) (qf_36 r))) := by
  intro n
  induction n with
  | zero => intro i h; unfold m_ref13_Term_l1 at h; cases h
  | succ n ih => intro i h; unfold m_ref13_Term_l1 at h; exact w_m_ref13_Term_l1_B  ih h
theorem w_m_ref13_Term {l : TLog} {at0 : Int} {r : (Int × Bool)}   (h : m_ref13_Term l at0 = some r) : Spec Pg 36 [.agg [.int .i64 l.Base, .int .i64 l.BaseTerm, sl TEntry.c l.Entries], .int .i64 at0] [] 0 (.tup [.int .i64 r.1, .bool r.2]) [] 0 := by
  refine Spec.intro Go.Proofs.Try.func36 i36_ok (le_of_ble rfl) ?_
  show Wp Pg 33 0 i36_B ⟨argEnv [.agg [.int .i64 l.Base, .int .i64 l.BaseTerm, sl TEntry.c l.Entries], .int .i64 at0] i36_V, [], [], 0⟩ (qf_36 r)
  unfold m_ref13_Term at h
  unfold i36_B
  refine weakP [] ?_
  refine Wp.seq (regP (seqN (Wp.seq (Wp.seq ?_))))
  refine regP (seqN ?_)
  replace h := ifS h; rcases h with ⟨g1, h⟩ | ⟨g1, h⟩
  · replace h := retS h; subst h
    refine condTP (Wp.seq ?_)
    refine regP (seqN (Wp.ret (seqR ?_)))
    exact finP
  · refine condFP (Wp.skip (seqN (Wp.seq (Wp.seq ?_))))
    refine regP (seqN (Wp.block (Wp.loop ?_)))
    exact jumpL [.kill [0, 4, 5, 10, 17, 26]] (w_m_ref13_Term_l1 _ h)
/-! funicular/funicularref15.Restart -/
noncomputable abbrev qf_14 (r : (TRaft × Int)) : Ex → St → Prop := FinQ 0 [.cell 12 true 16, .tmp 13] (.tup [.agg [.int .i64 r.1.Id, .int .i64 r.1.N, .int .i64 r.1.Term, .int .i64 r.1.Vote, .int .i64 r.1.Role, .int .i64 r.1.Lead, .int .i64 r.1.Log.Base, .int .i64 r.1.Log.BaseTerm, sl TEntry.c r.1.Log.Entries, .int .i64 r.1.Commit, sl (ci .u8) r.1.Snap, sl cb r.1.Granted, sl (ci .i64) r.1.Next, sl (ci .i64) r.1.Match, .int .i64 r.1.Clock, .int .i64 r.1.Wait], .int .i64 r.2]) [] 0
theorem w_m_ref15_Restart_k1 {term : Int} {vote : Int} {l : TLog} {snap : (List Int)} {r0 : (TRaft × Int)} {v59 : Bool} {r : (TRaft × Int)}   (h : m_ref15_Restart_k1 term vote l snap r0 v59 = some r) : Wp Pg 73 0 (.cond (.t 59) (.seq (.reg none i14_R6) .ret) .skip) ⟨[(0, .bad), (1, .bad), (2, .int .i64 term), (3, .int .i64 vote), (4, .bad), (5, sl (ci .u8) snap), (10, .ptr 0 0), (12, .ptr 1 0), (13, .bad), (14, .ptr 2 0), (15, .bad), (16, .bad), (25, .bad), (59, .bool v59)], [], [(0, .box [.int .i64 l.Base, .int .i64 l.BaseTerm, sl TEntry.c l.Entries]), (1, .box [.int .i64 (0 : Int), .int .i64 (0 : Int), .int .i64 (0 : Int), .int .i64 (0 : Int), .int .i64 (0 : Int), .int .i64 (0 : Int), .int .i64 (0 : Int), .int .i64 (0 : Int), .nil, .int .i64 (0 : Int), .nil, .nil, .nil, .nil, .int .i64 (0 : Int), .int .i64 (0 : Int)]), (2, .box [.int .i64 r0.1.Id, .int .i64 r0.1.N, .int .i64 r0.1.Term, .int .i64 r0.1.Vote, .int .i64 r0.1.Role, .int .i64 r0.1.Lead, .int .i64 r0.1.Log.Base, .int .i64 r0.1.Log.BaseTerm, sl TEntry.c r0.1.Log.Entries, .int .i64 r0.1.Commit, sl (ci .u8) r0.1.Snap, sl cb r0.1.Granted, sl (ci .i64) r0.1.Next, sl (ci .i64) r0.1.Match, .int .i64 r0.1.Clock, .int .i64 r0.1.Wait])], 3⟩ (seqQ Pg 73 0 (.seq (.reg none i14_R7) (.seq (.reg none i14_R8) (.seq (.reg none i14_R9) (.seq (.reg none i14_R10) (.seq (.reg none i14_R11) (.seq (.reg none i14_R12) .ret)))))) (qf_14 r)) := by
  unfold m_ref15_Restart_k1 at h
  replace h := ifS h; rcases h with ⟨g11, h⟩ | ⟨g11, h⟩
  · replace h := retS h; subst h
    refine condTP (Wp.seq ?_)
    refine regP (seqN ?_)
    refine weakP [.cell 12 8 .frz, .cell 12 10 .frz, .cell 12 11 .frz, .cell 12 12 .frz, .cell 12 13 .frz] (Wp.ret (seqR ?_))
    exact finP
  · replace h := retS h; subst h
    refine condFP (Wp.skip (seqN (Wp.seq ?_)))
    refine regP (seqN (Wp.seq ?_))
    refine regP (seqN (Wp.seq ?_))
    refine regP (seqN (Wp.seq ?_))
    refine regP (seqN (Wp.seq ?_))
    refine regP (seqN (Wp.seq ?_))
    refine regP (seqN (Wp.ret ?_))
    exact finP
theorem w_m_ref15_Restart {id : Int} {n0 : Int} {term : Int} {vote : Int} {l : TLog} {snap : (List Int)} {r : (TRaft × Int)}   (h : m_ref15_Restart id n0 term vote l snap = some r) : Spec Pg 14 [.int .i64 id, .int .i64 n0, .int .i64 term, .int .i64 vote, .agg [.int .i64 l.Base, .int .i64 l.BaseTerm, sl TEntry.c l.Entries], sl (ci .u8) snap] [] 0 (.tup [.agg [.int .i64 r.1.Id, .int .i64 r.1.N, .int .i64 r.1.Term, .int .i64 r.1.Vote, .int .i64 r.1.Role, .int .i64 r.1.Lead, .int .i64 r.1.Log.Base, .int .i64 r.1.Log.BaseTerm, sl TEntry.c r.1.Log.Entries, .int .i64 r.1.Commit, sl (ci .u8) r.1.Snap, sl cb r.1.Granted, sl (ci .i64) r.1.Next, sl (ci .i64) r.1.Match, .int .i64 r.1.Clock, .int .i64 r.1.Wait], .int .i64 r.2]) [] 0 := by
  refine Spec.intro Go.Proofs.Try.func14 i14_ok (le_of_ble rfl) ?_
  show Wp Pg 73 0 i14_B ⟨argEnv [.int .i64 id, .int .i64 n0, .int .i64 term, .int .i64 vote, .agg [.int .i64 l.Base, .int .i64 l.BaseTerm, sl TEntry.c l.Entries], sl (ci .u8) snap] i14_V, [], [], 0⟩ (qf_14 r)
  unfold m_ref15_Restart at h
  unfold i14_B
  refine weakP [] ?_
  refine Wp.seq (regP (seqN (Wp.seq (Wp.reg ?_))))
  replace h := bndS h; obtain ⟨r0, g1, h⟩ := h
  refine chunkT 3 (tab_cons (w_m_ref15_New g1) (tab_nil _)) ?_
  refine lastT (tab_nil _) (seqN (Wp.seq (Wp.seq ?_)))
  refine regP (seqN ?_)
  replace h := ifS h; rcases h with ⟨g2, h⟩ | ⟨g2, h⟩
  · replace h := retS h; subst h
    refine condTP (Wp.seq ?_)
    refine regP (seqN ?_)
    refine weakP [.cell 12 8 .frz, .cell 12 10 .frz, .cell 12 11 .frz, .cell 12 12 .frz, .cell 12 13 .frz] (Wp.ret (seqR ?_))
    exact finP
  · refine condFP (Wp.skip (seqN (Wp.seq ?_)))
    replace h := bndS h; obtain ⟨r0_1, g3, h⟩ := h
    replace h := bndS h; obtain ⟨r0_2, g4, h⟩ := h
    refine drawP [] mixed (clsC 2 (tab_cons (w_m_ref13_Last g3) (tab_nil _)) (clsC 3 (tab_cons (w_m_ref13_Term g4) (tab_nil _)) (clsN _))) (seqN (Wp.seq (Wp.seq (Wp.reg ?_))))
    replace h := ifS h; rcases h with ⟨g5, h⟩ | ⟨g5, h⟩
    · refine lastT (tab_nil _) (seqN ?_)
      exact jumpK [.kill [0, 1, 4, 13, 15, 16, 25], .tidy] (w_m_ref15_Restart_k1 h)
    · replace h := ifS h; rcases h with ⟨g6, h⟩ | ⟨g6, h⟩
      · refine lastT (tab_nil _) (seqN ?_)
        exact jumpK [.kill [0, 1, 4, 13, 15, 16, 25], .tidy] (w_m_ref15_Restart_k1 h)
      · replace h := ifS h; rcases h with ⟨g7, h⟩ | ⟨g7, h⟩
        · refine lastT (tab_nil _) (seqN ?_)
          exact jumpK [.kill [0, 1, 4, 13, 15, 16, 25], .tidy] (w_m_ref15_Restart_k1 h)
        · replace h := ifS h; rcases h with ⟨g8, h⟩ | ⟨g8, h⟩
          · refine lastT (tab_nil _) (seqN ?_)
            exact jumpK [.kill [0, 1, 4, 13, 15, 16, 25], .tidy] (w_m_ref15_Restart_k1 h)
          · replace h := ifS h; rcases h with ⟨g9, h⟩ | ⟨g9, h⟩
            · refine lastT (tab_nil _) (seqN ?_)
              exact jumpK [.kill [0, 1, 4, 13, 15, 16, 25], .tidy] (w_m_ref15_Restart_k1 h)
            · replace h := bndS h; obtain ⟨r0_3, g10, h⟩ := h
              refine chunkT 23 (tab_cons (w_m_ref13_Check g10) (tab_nil _)) ?_
              refine lastT (tab_nil _) (seqN ?_)
              exact jumpK [.kill [0, 1, 4, 13, 15, 16, 25], .tidy] (w_m_ref15_Restart_k1 h)
/-! funicular/funicularref13.Entries -/
noncomputable abbrev qf_61 (r : Bool) : Ex → St → Prop := FinQ 0 [.tmp 4] (.bool r) [] 0
theorem w_m_ref13_Entries_k1 {a : (List TEntry)} {b : (List TEntry)} {i : Int} {v42 : Bool} {r : Bool} {rec_m_ref13_Entries_l1 : Int → Option Bool} (hrec_m_ref13_Entries_l1 : ∀ {i : Int}, rec_m_ref13_Entries_l1 i = some r → LWp Pg 43 0 i61_L0 ⟨[(0, sl TEntry.c a), (1, sl TEntry.c b), (4, .bad), (5, .int .i64 i), (10, .bad), (14, .bad), (42, .bad)], [], [], 0⟩ (blockQ 0 (seqQ Pg 43 0 (.seq (.reg none i61_R8) .ret) (qf_61 r)))) (h : m_ref13_Entries_k1 rec_m_ref13_Entries_l1 i v42 = some r) : Wp Pg 43 0 (.cond (.t 42) (.seq (.reg none i61_R6) .ret) .skip) ⟨[(0, sl TEntry.c a), (1, sl TEntry.c b), (4, .bad), (5, .int .i64 i), (10, .bad), (14, .bad), (42, .bool v42)], [], [], 0⟩ (blockQ 1 (seqQ Pg 43 0 (.reg none i61_R7) (loopQ Pg 43 0 i61_L0 (blockQ 0 (seqQ Pg 43 0 (.seq (.reg none i61_R8) .ret) (qf_61 r)))))) := by
  unfold m_ref13_Entries_k1 at h
  replace h := ifS h; rcases h with ⟨g6, h⟩ | ⟨g6, h⟩
  · replace h := retS h; subst h
    refine condTP (Wp.seq ?_)
    refine regP (seqN (Wp.ret (blockR (seqR (loopR (blockR (seqR ?_)))))))
    exact finP
  · refine condFP (Wp.skip (blockN (seqN ?_)))
    refine regP (loopN ?_)
    exact jumpL [.kill [42]] (hrec_m_ref13_Entries_l1 h)
theorem w_m_ref13_Entries_l1_B {a : (List TEntry)} {b : (List TEntry)} {r : Bool}   {rec_m_ref13_Entries_l1 : Int → Option Bool} (hrec_m_ref13_Entries_l1 : ∀ {i : Int}, rec_m_ref13_Entries_l1 i = some r → LWp Pg 43 0 i61_L0 ⟨[(0, sl TEntry.c a), (1, sl TEntry.c b), (4, .bad), (5, .int .i64 i), (10, .bad), (14, .bad), (42, .bad)], [], [], 0⟩ (blockQ 0 (seqQ Pg 43 0 (.seq (.reg none i61_R8) .ret) (qf_61 r)))) {i : Int} (h : m_ref13_Entries_l1_B  a b rec_m_ref13_Entries_l1 i = some r) : LWp Pg 43 0 i61_L0 ⟨[(0, sl TEntry.c a), (1, sl TEntry.c b), (4, .bad), (5, .int .i64 i), (10, .bad), (14, .bad), (42, .bad)], [], [], 0⟩ (blockQ 0 (seqQ Pg 43 0 (.seq (.reg none i61_R8) .ret) (qf_61 r))) := by
  unfold m_ref13_Entries_l1_B at h
  refine LWp.stepC i61_L0.eq_1 ?_
  refine Wp.seq (Wp.seq (regP (seqN ?_)))
  replace h := ifS h; rcases h with ⟨g2, h⟩ | ⟨g2, h⟩
  · refine condTP (Wp.skip (seqN (Wp.seq (Wp.block (Wp.seq ?_)))))
    replace h := bndS h; obtain ⟨e, g3, h⟩ := h
    replace h := bndS h; obtain ⟨e_1, g4, h⟩ := h
    replace h := ifS h; rcases h with ⟨g5, h⟩ | ⟨g5, h⟩
    · refine drawP [] mixed (clsN _) (seqN ?_)
      exact jumpK [.kill [14], .tidy] (w_m_ref13_Entries_k1 (a := a) (b := b) hrec_m_ref13_Entries_l1 h)
    · refine drawP [] mixed (clsN _) (seqN ?_)
      exact jumpK [.kill [14], .tidy] (w_m_ref13_Entries_k1 (a := a) (b := b) hrec_m_ref13_Entries_l1 h)
  · replace h := retS h; subst h
    refine condFP (Wp.out (seqO (loopO (blockO (seqN (Wp.seq ?_))))))
    refine regP (seqN (Wp.ret ?_))
    exact finP
theorem w_m_ref13_Entries_l1 {a : (List TEntry)} {b : (List TEntry)} {r : Bool}   : ∀ (n : Nat) {i : Int}, m_ref13_Entries_l1  a b n i = some r → LWp Pg 43 0 i61_L0 ⟨[(0, sl TEntry.c a), (1, sl TEntry.c b), (4, .bad), (5, .int .i64 i), (10, .bad), (14, .bad), (42, .bad)], [], [], 0⟩ (blockQ 0 (seqQ Pg 43 0 (.seq (.reg none i61_R8) .ret) (qf_61 r))) := by
  intro n
  induction n with
  | zero => intro i h; unfold m_ref13_Entries_l1 at h; cases h
  | succ n ih => intro i h; unfold m_ref13_Entries_l1 at h; exact w_m_ref13_Entries_l1_B  ih h
theorem w_m_ref13_Entries {a : (List TEntry)} {b : (List TEntry)} {r : Bool}   (h : m_ref13_Entries a b = some r) : Spec Pg 61 [sl TEntry.c a, sl TEntry.c b] [] 0 (.bool r) [] 0 := by
  refine Spec.intro Go.Proofs.Try.func61 i61_ok (le_of_ble rfl) ?_
  show Wp Pg 43 0 i61_B ⟨argEnv [sl TEntry.c a, sl TEntry.c b] i61_V, [], [], 0⟩ (qf_61 r)
  unfold m_ref13_Entries at h
  unfold i61_B
  refine weakP [] ?_
  refine Wp.seq (regP (seqN (Wp.seq (Wp.seq ?_))))
  refine regP (seqN ?_)
  replace h := ifS h; rcases h with ⟨g1, h⟩ | ⟨g1, h⟩
  · replace h := retS h; subst h
    refine condTP (Wp.seq ?_)
    refine regP (seqN (Wp.ret (seqR ?_)))
    exact finP
  · refine condFP (Wp.skip (seqN (Wp.seq (Wp.seq ?_))))
    refine regP (seqN (Wp.block (Wp.loop ?_)))
    exact jumpL [.kill [4, 10, 14, 42]] (w_m_ref13_Entries_l1 _ h)
/-! funicular/funicularref13.Same -/
noncomputable abbrev qf_37 (r : Bool) : Ex → St → Prop := FinQ 0 [.tmp 4] (.bool r) [] 0
theorem w_m_ref13_Same {a : TLog} {b : TLog} {r : Bool}   (h : m_ref13_Same a b = some r) : Spec Pg 37 [.agg [.int .i64 a.Base, .int .i64 a.BaseTerm, sl TEntry.c a.Entries], .agg [.int .i64 b.Base, .int .i64 b.BaseTerm, sl TEntry.c b.Entries]] [] 0 (.bool r) [] 0 := by
  refine Spec.intro Go.Proofs.Try.func37 i37_ok (le_of_ble rfl) ?_
  show Wp Pg 24 0 i37_B ⟨argEnv [.agg [.int .i64 a.Base, .int .i64 a.BaseTerm, sl TEntry.c a.Entries], .agg [.int .i64 b.Base, .int .i64 b.BaseTerm, sl TEntry.c b.Entries]] i37_V, [], [], 0⟩ (qf_37 r)
  unfold m_ref13_Same at h
  unfold i37_B
  refine weakP [] ?_
  refine Wp.seq (regP (seqN (Wp.seq (Wp.reg ?_))))
  replace h := ifS h; rcases h with ⟨g1, h⟩ | ⟨g1, h⟩
  · replace h := ifS h; rcases h with ⟨g2, h⟩ | ⟨g2, h⟩
    · replace h := bndS h; obtain ⟨r0, g3, h⟩ := h
      replace h := retS h; subst h
      refine chunkT 18 (tab_cons (w_m_ref13_Entries g3) (tab_nil _)) ?_
      refine lastT (tab_nil _) (seqN (Wp.ret ?_))
      exact finP
    · replace h := retS h; subst h
      refine lastT (tab_nil _) (seqN (Wp.ret ?_))
      exact finP
  · replace h := retS h; subst h
    refine lastT (tab_nil _) (seqN (Wp.ret ?_))
    exact finP
/-! funicular/funicularref15.bools -/
noncomputable abbrev qf_38 (r : Bool) : Ex → St → Prop := FinQ 0 [.tmp 4] (.bool r) [] 0
theorem w_m_ref15_bools_l1_B {a : (List Bool)} {b : (List Bool)} {r : Bool}   {rec_m_ref15_bools_l1 : Int → Option Bool} (hrec_m_ref15_bools_l1 : ∀ {i : Int}, rec_m_ref15_bools_l1 i = some r → LWp Pg 26 0 i38_L0 ⟨[(0, sl cb a), (1, sl cb b), (4, .bad), (5, .int .i64 i), (10, .bad), (14, .bad), (25, .bad)], [], [], 0⟩ (blockQ 0 (seqQ Pg 26 0 (.seq (.reg none i38_R8) .ret) (qf_38 r)))) {i : Int} (h : m_ref15_bools_l1_B  a b rec_m_ref15_bools_l1 i = some r) : LWp Pg 26 0 i38_L0 ⟨[(0, sl cb a), (1, sl cb b), (4, .bad), (5, .int .i64 i), (10, .bad), (14, .bad), (25, .bad)], [], [], 0⟩ (blockQ 0 (seqQ Pg 26 0 (.seq (.reg none i38_R8) .ret) (qf_38 r))) := by
  unfold m_ref15_bools_l1_B at h
  refine LWp.stepC i38_L0.eq_1 ?_
  refine Wp.seq (Wp.seq (regP (seqN ?_)))
  replace h := ifS h; rcases h with ⟨g2, h⟩ | ⟨g2, h⟩
  · refine condTP (Wp.skip (seqN (Wp.seq (Wp.block (Wp.seq ?_)))))
    replace h := bndS h; obtain ⟨e, g3, h⟩ := h
    replace h := bndS h; obtain ⟨e_1, g4, h⟩ := h
    refine drawP [] mixed (clsN _) (seqN ?_)
    replace h := ifS h; rcases h with ⟨g5, h⟩ | ⟨g5, h⟩
    · refine condFP (Wp.skip (blockN (seqN ?_)))
      refine regP (loopN ?_)
      exact jumpL [.kill [14, 25], .tidy] (hrec_m_ref15_bools_l1 h)
    · replace h := retS h; subst h
      refine condTP (Wp.seq ?_)
      refine regP (seqN (Wp.ret (blockR (seqR (loopR (blockR (seqR ?_)))))))
      exact finP
  · replace h := retS h; subst h
    refine condFP (Wp.out (seqO (loopO (blockO (seqN (Wp.seq ?_))))))
    refine regP (seqN (Wp.ret ?_))
    exact finP
theorem w_m_ref15_bools_l1 {a : (List Bool)} {b : (List Bool)} {r : Bool}   : ∀ (n : Nat) {i : Int}, m_ref15_bools_l1  a b n i = some r → LWp Pg 26 0 i38_L0 ⟨[(0, sl cb a), (1, sl cb b), (4, .bad), (5, .int .i64 i), (10, .bad), (14, .bad), (25, .bad)], [], [], 0⟩ (blockQ 0 (seqQ Pg 26 0 (.seq (.reg none i38_R8) .ret) (qf_38 r))) := by
  intro n
  induction n with
  | zero => intro i h; unfold m_ref15_bools_l1 at h; cases h
  | succ n ih => intro i h; unfold m_ref15_bools_l1 at h; exact w_m_ref15_bools_l1_B  ih h
theorem w_m_ref15_bools {a : (List Bool)} {b : (List Bool)} {r : Bool}   (h : m_ref15_bools a b = some r) : Spec Pg 38 [sl cb a, sl cb b] [] 0 (.bool r) [] 0 := by
  refine Spec.intro Go.Proofs.Try.func38 i38_ok (le_of_ble rfl) ?_
  show Wp Pg 26 0 i38_B ⟨argEnv [sl cb a, sl cb b] i38_V, [], [], 0⟩ (qf_38 r)
  unfold m_ref15_bools at h
  unfold i38_B
  refine weakP [] ?_
  refine Wp.seq (regP (seqN (Wp.seq (Wp.seq ?_))))
  refine regP (seqN ?_)
  replace h := ifS h; rcases h with ⟨g1, h⟩ | ⟨g1, h⟩
  · replace h := retS h; subst h
    refine condTP (Wp.seq ?_)
    refine regP (seqN (Wp.ret (seqR ?_)))
    exact finP
  · refine condFP (Wp.skip (seqN (Wp.seq (Wp.seq ?_))))
    refine regP (seqN (Wp.block (Wp.loop ?_)))
    exact jumpL [.kill [4, 10, 14, 25]] (w_m_ref15_bools_l1 _ h)
/-! funicular/funicularref15.ints -/
noncomputable abbrev qf_39 (r : Bool) : Ex → St → Prop := FinQ 0 [.tmp 4] (.bool r) [] 0
theorem w_m_ref15_ints_l1_B {a : (List Int)} {b : (List Int)} {r : Bool}   {rec_m_ref15_ints_l1 : Int → Option Bool} (hrec_m_ref15_ints_l1 : ∀ {i : Int}, rec_m_ref15_ints_l1 i = some r → LWp Pg 26 0 i39_L0 ⟨[(0, sl (ci .i64) a), (1, sl (ci .i64) b), (4, .bad), (5, .int .i64 i), (10, .bad), (14, .bad), (25, .bad)], [], [], 0⟩ (blockQ 0 (seqQ Pg 26 0 (.seq (.reg none i39_R8) .ret) (qf_39 r)))) {i : Int} (h : m_ref15_ints_l1_B  a b rec_m_ref15_ints_l1 i = some r) : LWp Pg 26 0 i39_L0 ⟨[(0, sl (ci .i64) a), (1, sl (ci .i64) b), (4, .bad), (5, .int .i64 i), (10, .bad), (14, .bad), (25, .bad)], [], [], 0⟩ (blockQ 0 (seqQ Pg 26 0 (.seq (.reg none i39_R8) .ret) (qf_39 r))) := by
  unfold m_ref15_ints_l1_B at h
  refine LWp.stepC i39_L0.eq_1 ?_
  refine Wp.seq (Wp.seq (regP (seqN ?_)))
  replace h := ifS h; rcases h with ⟨g2, h⟩ | ⟨g2, h⟩
  · refine condTP (Wp.skip (seqN (Wp.seq (Wp.block (Wp.seq ?_)))))
    replace h := bndS h; obtain ⟨e, g3, h⟩ := h
    replace h := bndS h; obtain ⟨e_1, g4, h⟩ := h
    refine drawP [] mixed (clsN _) (seqN ?_)
    replace h := ifS h; rcases h with ⟨g5, h⟩ | ⟨g5, h⟩
    · replace h := retS h; subst h
      refine condTP (Wp.seq ?_)
      refine regP (seqN (Wp.ret (blockR (seqR (loopR (blockR (seqR ?_)))))))
      exact finP
    · refine condFP (Wp.skip (blockN (seqN ?_)))
      refine regP (loopN ?_)
      exact jumpL [.kill [14, 25], .tidy] (hrec_m_ref15_ints_l1 h)
  · replace h := retS h; subst h
    refine condFP (Wp.out (seqO (loopO (blockO (seqN (Wp.seq ?_))))))
    refine regP (seqN (Wp.ret ?_))
    exact finP
theorem w_m_ref15_ints_l1 {a : (List Int)} {b : (List Int)} {r : Bool}   : ∀ (n : Nat) {i : Int}, m_ref15_ints_l1  a b n i = some r → LWp Pg 26 0 i39_L0 ⟨[(0, sl (ci .i64) a), (1, sl (ci .i64) b), (4, .bad), (5, .int .i64 i), (10, .bad), (14, .bad), (25, .bad)], [], [], 0⟩ (blockQ 0 (seqQ Pg 26 0 (.seq (.reg none i39_R8) .ret) (qf_39 r))) := by
  intro n
  induction n with
  | zero => intro i h; unfold m_ref15_ints_l1 at h; cases h
  | succ n ih => intro i h; unfold m_ref15_ints_l1 at h; exact w_m_ref15_ints_l1_B  ih h
theorem w_m_ref15_ints {a : (List Int)} {b : (List Int)} {r : Bool}   (h : m_ref15_ints a b = some r) : Spec Pg 39 [sl (ci .i64) a, sl (ci .i64) b] [] 0 (.bool r) [] 0 := by
  refine Spec.intro Go.Proofs.Try.func39 i39_ok (le_of_ble rfl) ?_
  show Wp Pg 26 0 i39_B ⟨argEnv [sl (ci .i64) a, sl (ci .i64) b] i39_V, [], [], 0⟩ (qf_39 r)
  unfold m_ref15_ints at h
  unfold i39_B
  refine weakP [] ?_
  refine Wp.seq (regP (seqN (Wp.seq (Wp.seq ?_))))
  refine regP (seqN ?_)
  replace h := ifS h; rcases h with ⟨g1, h⟩ | ⟨g1, h⟩
  · replace h := retS h; subst h
    refine condTP (Wp.seq ?_)
    refine regP (seqN (Wp.ret (seqR ?_)))
    exact finP
  · refine condFP (Wp.skip (seqN (Wp.seq (Wp.seq ?_))))
    refine regP (seqN (Wp.block (Wp.loop ?_)))
    exact jumpL [.kill [4, 10, 14, 25]] (w_m_ref15_ints_l1 _ h)
/-! funicular/funicularref15.Same -/
noncomputable abbrev qf_15 (r : Bool) : Ex → St → Prop := FinQ 0 [.tmp 4] (.bool r) [] 0
theorem w_m_ref15_Same_k2 {a : TRaft} {b : TRaft} {v72 : Bool} {r : Bool}   (h : m_ref15_Same_k2 a b v72 = some r) : Wp Pg 99 0 (.cond (.t 72) (.seq (.reg none i15_R4) .ret) .skip) ⟨[(0, .bad), (1, .bad), (2, .ptr 0 0), (3, .ptr 1 0), (4, .bad), (44, .bad), (72, .bool v72)], [], [(0, .box [.int .i64 a.Id, .int .i64 a.N, .int .i64 a.Term, .int .i64 a.Vote, .int .i64 a.Role, .int .i64 a.Lead, .int .i64 a.Log.Base, .int .i64 a.Log.BaseTerm, sl TEntry.c a.Log.Entries, .int .i64 a.Commit, sl (ci .u8) a.Snap, sl cb a.Granted, sl (ci .i64) a.Next, sl (ci .i64) a.Match, .int .i64 a.Clock, .int .i64 a.Wait]), (1, .box [.int .i64 b.Id, .int .i64 b.N, .int .i64 b.Term, .int .i64 b.Vote, .int .i64 b.Role, .int .i64 b.Lead, .int .i64 b.Log.Base, .int .i64 b.Log.BaseTerm, sl TEntry.c b.Log.Entries, .int .i64 b.Commit, sl (ci .u8) b.Snap, sl cb b.Granted, sl (ci .i64) b.Next, sl (ci .i64) b.Match, .int .i64 b.Clock, .int .i64 b.Wait])], 2⟩ (seqQ Pg 99 0 (.seq (.reg none i15_R5) .ret) (qf_15 r)) := by
  unfold m_ref15_Same_k2 at h
  replace h := ifS h; rcases h with ⟨g10, h⟩ | ⟨g10, h⟩
  · replace h := retS h; subst h
    refine condTP (Wp.seq ?_)
    refine regP (seqN (Wp.ret (seqR ?_)))
    exact finP
  · refine condFP (Wp.skip (seqN (Wp.seq (Wp.reg ?_))))
    replace h := bndS h; obtain ⟨r0, g11, h⟩ := h
    refine chunkT 5 (tab_cons (w_m_ref13_Same g11) (tab_nil _)) ?_
    replace h := ifS h; rcases h with ⟨g12, h⟩ | ⟨g12, h⟩
    · replace h := bndS h; obtain ⟨r0_1, g13, h⟩ := h
      refine chunkT 6 (tab_cons (w_m_ref15_bools g13) (tab_nil _)) ?_
      replace h := ifS h; rcases h with ⟨g14, h⟩ | ⟨g14, h⟩
      · replace h := bndS h; obtain ⟨r0_2, g15, h⟩ := h
        refine chunkT 7 (tab_cons (w_m_ref15_ints g15) (tab_nil _)) ?_
        replace h := ifS h; rcases h with ⟨g16, h⟩ | ⟨g16, h⟩
        · replace h := bndS h; obtain ⟨r0_3, g17, h⟩ := h
          replace h := retS h; subst h
          refine chunkT 7 (tab_cons (w_m_ref15_ints g17) (tab_nil _)) ?_
          refine lastT (tab_nil _) (seqN (Wp.ret ?_))
          exact finP
        · replace h := retS h; subst h
          refine lastT (tab_nil _) (seqN (Wp.ret ?_))
          exact finP
      · replace h := retS h; subst h
        refine lastT (tab_nil _) (seqN (Wp.ret ?_))
        exact finP
    · replace h := retS h; subst h
      refine lastT (tab_nil _) (seqN (Wp.ret ?_))
      exact finP
theorem w_m_ref15_Same_k1 {a : TRaft} {b : TRaft} {v44 : Bool} {r : Bool}   (h : m_ref15_Same_k1 a b v44 = some r) : Wp Pg 99 0 (.cond (.t 44) (.seq (.reg none i15_R2) .ret) .skip) ⟨[(0, .bad), (1, .bad), (2, .ptr 0 0), (3, .ptr 1 0), (4, .bad), (44, .bool v44), (72, .bad)], [], [(0, .box [.int .i64 a.Id, .int .i64 a.N, .int .i64 a.Term, .int .i64 a.Vote, .int .i64 a.Role, .int .i64 a.Lead, .int .i64 a.Log.Base, .int .i64 a.Log.BaseTerm, sl TEntry.c a.Log.Entries, .int .i64 a.Commit, sl (ci .u8) a.Snap, sl cb a.Granted, sl (ci .i64) a.Next, sl (ci .i64) a.Match, .int .i64 a.Clock, .int .i64 a.Wait]), (1, .box [.int .i64 b.Id, .int .i64 b.N, .int .i64 b.Term, .int .i64 b.Vote, .int .i64 b.Role, .int .i64 b.Lead, .int .i64 b.Log.Base, .int .i64 b.Log.BaseTerm, sl TEntry.c b.Log.Entries, .int .i64 b.Commit, sl (ci .u8) b.Snap, sl cb b.Granted, sl (ci .i64) b.Next, sl (ci .i64) b.Match, .int .i64 b.Clock, .int .i64 b.Wait])], 2⟩ (seqQ Pg 99 0 (.seq (.seq (.reg none i15_R3) (.cond (.t 72) (.seq (.reg none i15_R4) .ret) .skip)) (.seq (.reg none i15_R5) .ret)) (qf_15 r)) := by
  unfold m_ref15_Same_k1 at h
  replace h := ifS h; rcases h with ⟨g6, h⟩ | ⟨g6, h⟩
  · replace h := retS h; subst h
    refine condTP (Wp.seq ?_)
    refine regP (seqN (Wp.ret (seqR ?_)))
    exact finP
  · refine condFP (Wp.skip (seqN (Wp.seq (Wp.seq ?_))))
    replace h := ifS h; rcases h with ⟨g7, h⟩ | ⟨g7, h⟩
    · refine regP (seqN ?_)
      exact jumpK [.kill [44]] (w_m_ref15_Same_k2 h)
    · replace h := ifS h; rcases h with ⟨g8, h⟩ | ⟨g8, h⟩
      · refine regP (seqN ?_)
        exact jumpK [.kill [44]] (w_m_ref15_Same_k2 h)
      · replace h := ifS h; rcases h with ⟨g9, h⟩ | ⟨g9, h⟩
        · refine regP (seqN ?_)
          exact jumpK [.kill [44]] (w_m_ref15_Same_k2 h)
        · refine regP (seqN ?_)
          exact jumpK [.kill [44]] (w_m_ref15_Same_k2 h)
theorem w_m_ref15_Same {a : TRaft} {b : TRaft} {r : Bool}   (h : m_ref15_Same a b = some r) : Spec Pg 15 [.agg [.int .i64 a.Id, .int .i64 a.N, .int .i64 a.Term, .int .i64 a.Vote, .int .i64 a.Role, .int .i64 a.Lead, .int .i64 a.Log.Base, .int .i64 a.Log.BaseTerm, sl TEntry.c a.Log.Entries, .int .i64 a.Commit, sl (ci .u8) a.Snap, sl cb a.Granted, sl (ci .i64) a.Next, sl (ci .i64) a.Match, .int .i64 a.Clock, .int .i64 a.Wait], .agg [.int .i64 b.Id, .int .i64 b.N, .int .i64 b.Term, .int .i64 b.Vote, .int .i64 b.Role, .int .i64 b.Lead, .int .i64 b.Log.Base, .int .i64 b.Log.BaseTerm, sl TEntry.c b.Log.Entries, .int .i64 b.Commit, sl (ci .u8) b.Snap, sl cb b.Granted, sl (ci .i64) b.Next, sl (ci .i64) b.Match, .int .i64 b.Clock, .int .i64 b.Wait]] [] 0 (.bool r) [] 0 := by
  refine Spec.intro Go.Proofs.Try.func15 i15_ok (le_of_ble rfl) ?_
  show Wp Pg 99 0 i15_B ⟨argEnv [.agg [.int .i64 a.Id, .int .i64 a.N, .int .i64 a.Term, .int .i64 a.Vote, .int .i64 a.Role, .int .i64 a.Lead, .int .i64 a.Log.Base, .int .i64 a.Log.BaseTerm, sl TEntry.c a.Log.Entries, .int .i64 a.Commit, sl (ci .u8) a.Snap, sl cb a.Granted, sl (ci .i64) a.Next, sl (ci .i64) a.Match, .int .i64 a.Clock, .int .i64 a.Wait], .agg [.int .i64 b.Id, .int .i64 b.N, .int .i64 b.Term, .int .i64 b.Vote, .int .i64 b.Role, .int .i64 b.Lead, .int .i64 b.Log.Base, .int .i64 b.Log.BaseTerm, sl TEntry.c b.Log.Entries, .int .i64 b.Commit, sl (ci .u8) b.Snap, sl cb b.Granted, sl (ci .i64) b.Next, sl (ci .i64) b.Match, .int .i64 b.Clock, .int .i64 b.Wait]] i15_V, [], [], 0⟩ (qf_15 r)
  unfold m_ref15_Same at h
  unfold i15_B
  refine weakP [] ?_
  refine Wp.seq (regP (seqN (Wp.seq (Wp.seq ?_))))
  replace h := ifS h; rcases h with ⟨g1, h⟩ | ⟨g1, h⟩
  · refine regP (seqN ?_)
    exact jumpK [.kill [0, 1, 4, 72], .tidy] (w_m_ref15_Same_k1 h)
  · replace h := ifS h; rcases h with ⟨g2, h⟩ | ⟨g2, h⟩
    · refine regP (seqN ?_)
      exact jumpK [.kill [0, 1, 4, 72], .tidy] (w_m_ref15_Same_k1 h)
    · replace h := ifS h; rcases h with ⟨g3, h⟩ | ⟨g3, h⟩
      · refine regP (seqN ?_)
        exact jumpK [.kill [0, 1, 4, 72], .tidy] (w_m_ref15_Same_k1 h)
      · replace h := ifS h; rcases h with ⟨g4, h⟩ | ⟨g4, h⟩
        · refine regP (seqN ?_)
          exact jumpK [.kill [0, 1, 4, 72], .tidy] (w_m_ref15_Same_k1 h)
        · replace h := ifS h; rcases h with ⟨g5, h⟩ | ⟨g5, h⟩
          · refine regP (seqN ?_)
            exact jumpK [.kill [0, 1, 4, 72], .tidy] (w_m_ref15_Same_k1 h)
          · refine regP (seqN ?_)
            exact jumpK [.kill [0, 1, 4, 72], .tidy] (w_m_ref15_Same_k1 h)
/-! funicular/raft.Same$1 -/
noncomputable abbrev qf_40 (r : A10_Int) : Ex → St → Prop := FinQ 0 [.cell 2 true 10] (.agg [.int .i64 r.a0, .int .i64 r.a1, .int .i64 r.a2, .int .i64 r.a3, .int .i64 r.a4, .int .i64 r.a5, .int .i64 r.a6, .int .i64 r.a7, .int .i64 r.a8, .int .i64 r.a9]) [] 0
theorem w_m_raft_Same_1 {r0 : TRaft} {r : A10_Int}   (h : m_raft_Same_1 r0 = some r) : Spec Pg 40 [.agg [.int .i64 r0.Id, .int .i64 r0.N, .int .i64 r0.Term, .int .i64 r0.Vote, .int .i64 r0.Role, .int .i64 r0.Lead, .int .i64 r0.Log.Base, .int .i64 r0.Log.BaseTerm, sl TEntry.c r0.Log.Entries, .int .i64 r0.Commit, sl (ci .u8) r0.Snap, sl cb r0.Granted, sl (ci .i64) r0.Next, sl (ci .i64) r0.Match, .int .i64 r0.Clock, .int .i64 r0.Wait]] [] 0 (.agg [.int .i64 r.a0, .int .i64 r.a1, .int .i64 r.a2, .int .i64 r.a3, .int .i64 r.a4, .int .i64 r.a5, .int .i64 r.a6, .int .i64 r.a7, .int .i64 r.a8, .int .i64 r.a9]) [] 0 := by
  refine Spec.intro Go.Proofs.Try.func40 i40_ok (le_of_ble rfl) ?_
  show Wp Pg 22 0 i40_B ⟨argEnv [.agg [.int .i64 r0.Id, .int .i64 r0.N, .int .i64 r0.Term, .int .i64 r0.Vote, .int .i64 r0.Role, .int .i64 r0.Lead, .int .i64 r0.Log.Base, .int .i64 r0.Log.BaseTerm, sl TEntry.c r0.Log.Entries, .int .i64 r0.Commit, sl (ci .u8) r0.Snap, sl cb r0.Granted, sl (ci .i64) r0.Next, sl (ci .i64) r0.Match, .int .i64 r0.Clock, .int .i64 r0.Wait]] i40_V, [], [], 0⟩ (qf_40 r)
  unfold m_raft_Same_1 at h
  unfold i40_B
  refine weakP [] ?_
  replace h := retS h; subst h
  refine Wp.seq (regP (seqN (Wp.seq ?_)))
  refine regP (seqN (Wp.ret ?_))
  exact finP
/-! funicular/logs.Same$1 -/
noncomputable abbrev qf_62 (r : A2_Int) : Ex → St → Prop := FinQ 0 [.cell 2 true 2] (.agg [.int .i64 r.a0, .int .i64 r.a1]) [] 0
theorem w_m_logs_Same_1 {l : TLog} {r : A2_Int}   (h : m_logs_Same_1 l = some r) : Spec Pg 62 [.agg [.int .i64 l.Base, .int .i64 l.BaseTerm, sl TEntry.c l.Entries]] [] 0 (.agg [.int .i64 r.a0, .int .i64 r.a1]) [] 0 := by
  refine Spec.intro Go.Proofs.Try.func62 i62_ok (le_of_ble rfl) ?_
  show Wp Pg 8 0 i62_B ⟨argEnv [.agg [.int .i64 l.Base, .int .i64 l.BaseTerm, sl TEntry.c l.Entries]] i62_V, [], [], 0⟩ (qf_62 r)
  unfold m_logs_Same_1 at h
  unfold i62_B
  refine weakP [] ?_
  replace h := retS h; subst h
  refine Wp.seq (regP (seqN (Wp.seq ?_)))
  refine regP (seqN (Wp.ret ?_))
  exact finP
end Go.Proofs.Ytgoachcogmlhcaa.R
