/- The program's functions answer what the models answer: 3. -/
import Derived.Test.YtgoachcogmlhcaaMW0
import Derived.Test.YtgoachcogmlhcaaMW1
import Derived.Test.YtgoachcogmlhcaaMW2
set_option maxRecDepth 100000
set_option linter.unusedVariables false
set_option linter.unusedSimpArgs false
set_option linter.defProp false
noncomputable section
namespace Go.Proofs.Ytgoachcogmlhcaa.R
open Go Nat
/-! funicular/logs.Same -/
noncomputable abbrev qf_41 (r : Bool) : Ex → St → Prop := FinQ 0 [.tmp 4] (.bool r) [] 0
theorem w_m_logs_Same {a : TLog} {b : TLog} {r : Bool}   (h : m_logs_Same a b = some r) : Spec Pg 41 [.agg [.int .i64 a.Base, .int .i64 a.BaseTerm, sl TEntry.c a.Entries], .agg [.int .i64 b.Base, .int .i64 b.BaseTerm, sl TEntry.c b.Entries]] [] 0 (.bool r) [] 0 := by
  refine Spec.intro Go.Proofs.Try.func41 i41_ok (le_of_ble rfl) ?_
  show Wp Pg 20 0 i41_B ⟨argEnv [.agg [.int .i64 a.Base, .int .i64 a.BaseTerm, sl TEntry.c a.Entries], .agg [.int .i64 b.Base, .int .i64 b.BaseTerm, sl TEntry.c b.Entries]] i41_V, [], [], 0⟩ (qf_41 r)
  unfold m_logs_Same at h
  unfold i41_B
  refine weakP [] ?_
  refine Wp.seq (regP (seqN (Wp.seq ?_)))
  refine regP (seqN (Wp.seq ?_))
  replace h := bndS h; obtain ⟨r0, g1, h⟩ := h
  replace h := bndS h; obtain ⟨r0_1, g2, h⟩ := h
  replace h := ifS h; rcases h with ⟨g3, h⟩ | ⟨g3, h⟩
  · replace h := bndS h; obtain ⟨r0_2, g4, h⟩ := h
    replace h := retS h; subst h
    refine drawP [63] mixed (clsC 2 (tab_cons (w_m_logs_Same_1 g1) (tab_nil _)) (clsC 5 (tab_cons (w_m_logs_Same_1 g2) (tab_nil _)) (clsC 12 (tab_cons (w_m_slices_EqualFunc_api_Entry_api_Entry_api_Entry_api_Entry g4) (tab_nil _)) (clsN _)))) (seqN (Wp.ret ?_))
    exact finP
  · replace h := retS h; subst h
    refine drawP [] mixed (clsC 2 (tab_cons (w_m_logs_Same_1 g1) (tab_nil _)) (clsC 5 (tab_cons (w_m_logs_Same_1 g2) (tab_nil _)) (clsN _))) (seqN (Wp.ret ?_))
    exact finP
/-! slices.Equal[[]byte,byte] -/
noncomputable abbrev qf_42 (r : Bool) : Ex → St → Prop := FinQ 0 [.tmp 4] (.bool r) [] 0
theorem w_m_slices_Equal_byte_byte_l1_B {s1 : (List Int)} {s2 : (List Int)} {r : Bool}   {rec_m_slices_Equal_byte_byte_l1 : Int → Option Bool} (hrec_m_slices_Equal_byte_byte_l1 : ∀ {v13 : Int}, rec_m_slices_Equal_byte_byte_l1 v13 = some r → LWp Pg 26 0 i42_L0 ⟨[(0, sl (ci .u8) s1), (1, sl (ci .u8) s2), (4, .bad), (5, .bad), (10, .bad), (12, .int .i64 (s1.length : Int)), (13, .int .i64 v13), (14, .bad), (24, .bad)], [], [], 0⟩ (blockQ 0 (seqQ Pg 26 0 (.seq (.reg none i42_R9) .ret) (qf_42 r)))) {v13 : Int} (h : m_slices_Equal_byte_byte_l1_B  s1 s2 rec_m_slices_Equal_byte_byte_l1 v13 = some r) : LWp Pg 26 0 i42_L0 ⟨[(0, sl (ci .u8) s1), (1, sl (ci .u8) s2), (4, .bad), (5, .bad), (10, .bad), (12, .int .i64 (s1.length : Int)), (13, .int .i64 v13), (14, .bad), (24, .bad)], [], [], 0⟩ (blockQ 0 (seqQ Pg 26 0 (.seq (.reg none i42_R9) .ret) (qf_42 r))) := by
  unfold m_slices_Equal_byte_byte_l1_B at h
  refine LWp.stepC i42_L0.eq_1 ?_
  refine Wp.seq (regP (seqN (Wp.seq ?_)))
  replace h := ifS h; rcases h with ⟨g2, h⟩ | ⟨g2, h⟩
  · refine condTP (Wp.skip (seqN (Wp.seq (Wp.block (Wp.seq ?_)))))
    refine regP (seqN (Wp.seq ?_))
    replace h := bndS h; obtain ⟨e, g3, h⟩ := h
    replace h := bndS h; obtain ⟨e_1, g4, h⟩ := h
    refine drawP [] mixed (clsN _) (seqN ?_)
    replace h := ifS h; rcases h with ⟨g5, h⟩ | ⟨g5, h⟩
    · replace h := retS h; subst h
      refine condTP (Wp.seq ?_)
      refine regP (seqN (Wp.ret (blockR (seqR (loopR (blockR (seqR ?_)))))))
      exact finP
    · refine condFP (Wp.skip (blockN (seqN ?_)))
      refine regP (loopN ?_)
      exact jumpL [.kill [5, 14, 24], .tidy] (hrec_m_slices_Equal_byte_byte_l1 h)
  · replace h := retS h; subst h
    refine condFP (Wp.out (seqO (loopO (blockO (seqN (Wp.seq ?_))))))
    refine regP (seqN (Wp.ret ?_))
    exact finP
theorem w_m_slices_Equal_byte_byte_l1 {s1 : (List Int)} {s2 : (List Int)} {r : Bool}   : ∀ (n : Nat) {v13 : Int}, m_slices_Equal_byte_byte_l1  s1 s2 n v13 = some r → LWp Pg 26 0 i42_L0 ⟨[(0, sl (ci .u8) s1), (1, sl (ci .u8) s2), (4, .bad), (5, .bad), (10, .bad), (12, .int .i64 (s1.length : Int)), (13, .int .i64 v13), (14, .bad), (24, .bad)], [], [], 0⟩ (blockQ 0 (seqQ Pg 26 0 (.seq (.reg none i42_R9) .ret) (qf_42 r))) := by
  intro n
  induction n with
  | zero => intro v13 h; unfold m_slices_Equal_byte_byte_l1 at h; cases h
  | succ n ih => intro v13 h; unfold m_slices_Equal_byte_byte_l1 at h; exact w_m_slices_Equal_byte_byte_l1_B  ih h
theorem w_m_slices_Equal_byte_byte {s1 : (List Int)} {s2 : (List Int)} {r : Bool}   (h : m_slices_Equal_byte_byte s1 s2 = some r) : Spec Pg 42 [sl (ci .u8) s1, sl (ci .u8) s2] [] 0 (.bool r) [] 0 := by
  refine Spec.intro Go.Proofs.Try.func42 i42_ok (le_of_ble rfl) ?_
  show Wp Pg 26 0 i42_B ⟨argEnv [sl (ci .u8) s1, sl (ci .u8) s2] i42_V, [], [], 0⟩ (qf_42 r)
  unfold m_slices_Equal_byte_byte at h
  unfold i42_B
  refine weakP [] ?_
  refine Wp.seq (regP (seqN (Wp.seq (Wp.seq ?_))))
  refine regP (seqN ?_)
  replace h := ifS h; rcases h with ⟨g1, h⟩ | ⟨g1, h⟩
  · replace h := retS h; subst h
    refine condTP (Wp.seq ?_)
    refine regP (seqN (Wp.ret (seqR ?_)))
    exact finP
  · refine condFP (Wp.skip (seqN (Wp.seq (Wp.seq ?_))))
    refine regP (seqN (Wp.block (Wp.loop ?_)))
    exact jumpL [.kill [4, 5, 10, 14, 24]] (w_m_slices_Equal_byte_byte_l1 _ h)
/-! slices.Equal[[]bool,bool] -/
noncomputable abbrev qf_43 (r : Bool) : Ex → St → Prop := FinQ 0 [.tmp 4] (.bool r) [] 0
theorem w_m_slices_Equal_bool_bool_l1_B {s1 : (List Bool)} {s2 : (List Bool)} {r : Bool}   {rec_m_slices_Equal_bool_bool_l1 : Int → Option Bool} (hrec_m_slices_Equal_bool_bool_l1 : ∀ {v13 : Int}, rec_m_slices_Equal_bool_bool_l1 v13 = some r → LWp Pg 26 0 i43_L0 ⟨[(0, sl cb s1), (1, sl cb s2), (4, .bad), (5, .bad), (10, .bad), (12, .int .i64 (s1.length : Int)), (13, .int .i64 v13), (14, .bad), (24, .bad)], [], [], 0⟩ (blockQ 0 (seqQ Pg 26 0 (.seq (.reg none i43_R9) .ret) (qf_43 r)))) {v13 : Int} (h : m_slices_Equal_bool_bool_l1_B  s1 s2 rec_m_slices_Equal_bool_bool_l1 v13 = some r) : LWp Pg 26 0 i43_L0 ⟨[(0, sl cb s1), (1, sl cb s2), (4, .bad), (5, .bad), (10, .bad), (12, .int .i64 (s1.length : Int)), (13, .int .i64 v13), (14, .bad), (24, .bad)], [], [], 0⟩ (blockQ 0 (seqQ Pg 26 0 (.seq (.reg none i43_R9) .ret) (qf_43 r))) := by
  unfold m_slices_Equal_bool_bool_l1_B at h
  refine LWp.stepC i43_L0.eq_1 ?_
  refine Wp.seq (regP (seqN (Wp.seq ?_)))
  replace h := ifS h; rcases h with ⟨g2, h⟩ | ⟨g2, h⟩
  · refine condTP (Wp.skip (seqN (Wp.seq (Wp.block (Wp.seq ?_)))))
    refine regP (seqN (Wp.seq ?_))
    replace h := bndS h; obtain ⟨e, g3, h⟩ := h
    replace h := bndS h; obtain ⟨e_1, g4, h⟩ := h
    refine drawP [] mixed (clsN _) (seqN ?_)
    replace h := ifS h; rcases h with ⟨g5, h⟩ | ⟨g5, h⟩
    · refine condFP (Wp.skip (blockN (seqN ?_)))
      refine regP (loopN ?_)
      exact jumpL [.kill [5, 14, 24], .tidy] (hrec_m_slices_Equal_bool_bool_l1 h)
    · replace h := retS h; subst h
      refine condTP (Wp.seq ?_)
      refine regP (seqN (Wp.ret (blockR (seqR (loopR (blockR (seqR ?_)))))))
      exact finP
  · replace h := retS h; subst h
    refine condFP (Wp.out (seqO (loopO (blockO (seqN (Wp.seq ?_))))))
    refine regP (seqN (Wp.ret ?_))
    exact finP
theorem w_m_slices_Equal_bool_bool_l1 {s1 : (List Bool)} {s2 : (List Bool)} {r : Bool}   : ∀ (n : Nat) {v13 : Int}, m_slices_Equal_bool_bool_l1  s1 s2 n v13 = some r → LWp Pg 26 0 i43_L0 ⟨[(0, sl cb s1), (1, sl cb s2), (4, .bad), (5, .bad), (10, .bad), (12, .int .i64 (s1.length : Int)), (13, .int .i64 v13), (14, .bad), (24, .bad)], [], [], 0⟩ (blockQ 0 (seqQ Pg 26 0 (.seq (.reg none i43_R9) .ret) (qf_43 r))) := by
  intro n
  induction n with
  | zero => intro v13 h; unfold m_slices_Equal_bool_bool_l1 at h; cases h
  | succ n ih => intro v13 h; unfold m_slices_Equal_bool_bool_l1 at h; exact w_m_slices_Equal_bool_bool_l1_B  ih h
theorem w_m_slices_Equal_bool_bool {s1 : (List Bool)} {s2 : (List Bool)} {r : Bool}   (h : m_slices_Equal_bool_bool s1 s2 = some r) : Spec Pg 43 [sl cb s1, sl cb s2] [] 0 (.bool r) [] 0 := by
  refine Spec.intro Go.Proofs.Try.func43 i43_ok (le_of_ble rfl) ?_
  show Wp Pg 26 0 i43_B ⟨argEnv [sl cb s1, sl cb s2] i43_V, [], [], 0⟩ (qf_43 r)
  unfold m_slices_Equal_bool_bool at h
  unfold i43_B
  refine weakP [] ?_
  refine Wp.seq (regP (seqN (Wp.seq (Wp.seq ?_))))
  refine regP (seqN ?_)
  replace h := ifS h; rcases h with ⟨g1, h⟩ | ⟨g1, h⟩
  · replace h := retS h; subst h
    refine condTP (Wp.seq ?_)
    refine regP (seqN (Wp.ret (seqR ?_)))
    exact finP
  · refine condFP (Wp.skip (seqN (Wp.seq (Wp.seq ?_))))
    refine regP (seqN (Wp.block (Wp.loop ?_)))
    exact jumpL [.kill [4, 5, 10, 14, 24]] (w_m_slices_Equal_bool_bool_l1 _ h)
/-! slices.Equal[[]int,int] -/
noncomputable abbrev qf_44 (r : Bool) : Ex → St → Prop := FinQ 0 [.tmp 4] (.bool r) [] 0
theorem w_m_slices_Equal_int_int_l1_B {s1 : (List Int)} {s2 : (List Int)} {r : Bool}   {rec_m_slices_Equal_int_int_l1 : Int → Option Bool} (hrec_m_slices_Equal_int_int_l1 : ∀ {v13 : Int}, rec_m_slices_Equal_int_int_l1 v13 = some r → LWp Pg 26 0 i44_L0 ⟨[(0, sl (ci .i64) s1), (1, sl (ci .i64) s2), (4, .bad), (5, .bad), (10, .bad), (12, .int .i64 (s1.length : Int)), (13, .int .i64 v13), (14, .bad), (24, .bad)], [], [], 0⟩ (blockQ 0 (seqQ Pg 26 0 (.seq (.reg none i44_R9) .ret) (qf_44 r)))) {v13 : Int} (h : m_slices_Equal_int_int_l1_B  s1 s2 rec_m_slices_Equal_int_int_l1 v13 = some r) : LWp Pg 26 0 i44_L0 ⟨[(0, sl (ci .i64) s1), (1, sl (ci .i64) s2), (4, .bad), (5, .bad), (10, .bad), (12, .int .i64 (s1.length : Int)), (13, .int .i64 v13), (14, .bad), (24, .bad)], [], [], 0⟩ (blockQ 0 (seqQ Pg 26 0 (.seq (.reg none i44_R9) .ret) (qf_44 r))) := by
  unfold m_slices_Equal_int_int_l1_B at h
  refine LWp.stepC i44_L0.eq_1 ?_
  refine Wp.seq (regP (seqN (Wp.seq ?_)))
  replace h := ifS h; rcases h with ⟨g2, h⟩ | ⟨g2, h⟩
  · refine condTP (Wp.skip (seqN (Wp.seq (Wp.block (Wp.seq ?_)))))
    refine regP (seqN (Wp.seq ?_))
    replace h := bndS h; obtain ⟨e, g3, h⟩ := h
    replace h := bndS h; obtain ⟨e_1, g4, h⟩ := h
    refine drawP [] mixed (clsN _) (seqN ?_)
    replace h := ifS h; rcases h with ⟨g5, h⟩ | ⟨g5, h⟩
    · replace h := retS h; subst h
      refine condTP (Wp.seq ?_)
      refine regP (seqN (Wp.ret (blockR (seqR (loopR (blockR (seqR ?_)))))))
      exact finP
    · refine condFP (Wp.skip (blockN (seqN ?_)))
      refine regP (loopN ?_)
      exact jumpL [.kill [5, 14, 24], .tidy] (hrec_m_slices_Equal_int_int_l1 h)
  · replace h := retS h; subst h
    refine condFP (Wp.out (seqO (loopO (blockO (seqN (Wp.seq ?_))))))
    refine regP (seqN (Wp.ret ?_))
    exact finP
theorem w_m_slices_Equal_int_int_l1 {s1 : (List Int)} {s2 : (List Int)} {r : Bool}   : ∀ (n : Nat) {v13 : Int}, m_slices_Equal_int_int_l1  s1 s2 n v13 = some r → LWp Pg 26 0 i44_L0 ⟨[(0, sl (ci .i64) s1), (1, sl (ci .i64) s2), (4, .bad), (5, .bad), (10, .bad), (12, .int .i64 (s1.length : Int)), (13, .int .i64 v13), (14, .bad), (24, .bad)], [], [], 0⟩ (blockQ 0 (seqQ Pg 26 0 (.seq (.reg none i44_R9) .ret) (qf_44 r))) := by
  intro n
  induction n with
  | zero => intro v13 h; unfold m_slices_Equal_int_int_l1 at h; cases h
  | succ n ih => intro v13 h; unfold m_slices_Equal_int_int_l1 at h; exact w_m_slices_Equal_int_int_l1_B  ih h
theorem w_m_slices_Equal_int_int {s1 : (List Int)} {s2 : (List Int)} {r : Bool}   (h : m_slices_Equal_int_int s1 s2 = some r) : Spec Pg 44 [sl (ci .i64) s1, sl (ci .i64) s2] [] 0 (.bool r) [] 0 := by
  refine Spec.intro Go.Proofs.Try.func44 i44_ok (le_of_ble rfl) ?_
  show Wp Pg 26 0 i44_B ⟨argEnv [sl (ci .i64) s1, sl (ci .i64) s2] i44_V, [], [], 0⟩ (qf_44 r)
  unfold m_slices_Equal_int_int at h
  unfold i44_B
  refine weakP [] ?_
  refine Wp.seq (regP (seqN (Wp.seq (Wp.seq ?_))))
  refine regP (seqN ?_)
  replace h := ifS h; rcases h with ⟨g1, h⟩ | ⟨g1, h⟩
  · replace h := retS h; subst h
    refine condTP (Wp.seq ?_)
    refine regP (seqN (Wp.ret (seqR ?_)))
    exact finP
  · refine condFP (Wp.skip (seqN (Wp.seq (Wp.seq ?_))))
    refine regP (seqN (Wp.block (Wp.loop ?_)))
    exact jumpL [.kill [4, 5, 10, 14, 24]] (w_m_slices_Equal_int_int_l1 _ h)
/-! funicular/raft.Same -/
noncomputable abbrev qf_16 (r : Bool) : Ex → St → Prop := FinQ 0 [.tmp 4] (.bool r) [] 0
theorem w_m_raft_Same {a : TRaft} {b : TRaft} {r : Bool}   (h : m_raft_Same a b = some r) : Spec Pg 16 [.agg [.int .i64 a.Id, .int .i64 a.N, .int .i64 a.Term, .int .i64 a.Vote, .int .i64 a.Role, .int .i64 a.Lead, .int .i64 a.Log.Base, .int .i64 a.Log.BaseTerm, sl TEntry.c a.Log.Entries, .int .i64 a.Commit, sl (ci .u8) a.Snap, sl cb a.Granted, sl (ci .i64) a.Next, sl (ci .i64) a.Match, .int .i64 a.Clock, .int .i64 a.Wait], .agg [.int .i64 b.Id, .int .i64 b.N, .int .i64 b.Term, .int .i64 b.Vote, .int .i64 b.Role, .int .i64 b.Lead, .int .i64 b.Log.Base, .int .i64 b.Log.BaseTerm, sl TEntry.c b.Log.Entries, .int .i64 b.Commit, sl (ci .u8) b.Snap, sl cb b.Granted, sl (ci .i64) b.Next, sl (ci .i64) b.Match, .int .i64 b.Clock, .int .i64 b.Wait]] [] 0 (.bool r) [] 0 := by
  refine Spec.intro Go.Proofs.Try.func16 i16_ok (le_of_ble rfl) ?_
  show Wp Pg 48 0 i16_B ⟨argEnv [.agg [.int .i64 a.Id, .int .i64 a.N, .int .i64 a.Term, .int .i64 a.Vote, .int .i64 a.Role, .int .i64 a.Lead, .int .i64 a.Log.Base, .int .i64 a.Log.BaseTerm, sl TEntry.c a.Log.Entries, .int .i64 a.Commit, sl (ci .u8) a.Snap, sl cb a.Granted, sl (ci .i64) a.Next, sl (ci .i64) a.Match, .int .i64 a.Clock, .int .i64 a.Wait], .agg [.int .i64 b.Id, .int .i64 b.N, .int .i64 b.Term, .int .i64 b.Vote, .int .i64 b.Role, .int .i64 b.Lead, .int .i64 b.Log.Base, .int .i64 b.Log.BaseTerm, sl TEntry.c b.Log.Entries, .int .i64 b.Commit, sl (ci .u8) b.Snap, sl cb b.Granted, sl (ci .i64) b.Next, sl (ci .i64) b.Match, .int .i64 b.Clock, .int .i64 b.Wait]] i16_V, [], [], 0⟩ (qf_16 r)
  unfold m_raft_Same at h
  unfold i16_B
  refine weakP [] ?_
  refine Wp.seq (regP (seqN (Wp.seq ?_)))
  refine regP (seqN (Wp.seq ?_))
  replace h := bndS h; obtain ⟨r0, g1, h⟩ := h
  replace h := bndS h; obtain ⟨r0_1, g2, h⟩ := h
  replace h := ifS h; rcases h with ⟨g3, h⟩ | ⟨g3, h⟩
  · replace h := bndS h; obtain ⟨r0_2, g4, h⟩ := h
    replace h := ifS h; rcases h with ⟨g5, h⟩ | ⟨g5, h⟩
    · replace h := bndS h; obtain ⟨r0_3, g6, h⟩ := h
      replace h := ifS h; rcases h with ⟨g7, h⟩ | ⟨g7, h⟩
      · replace h := bndS h; obtain ⟨r0_4, g8, h⟩ := h
        replace h := ifS h; rcases h with ⟨g9, h⟩ | ⟨g9, h⟩
        · replace h := bndS h; obtain ⟨r0_5, g10, h⟩ := h
          replace h := ifS h; rcases h with ⟨g11, h⟩ | ⟨g11, h⟩
          · replace h := bndS h; obtain ⟨r0_6, g12, h⟩ := h
            replace h := retS h; subst h
            refine drawP [] mixed (clsC 2 (tab_cons (w_m_raft_Same_1 g1) (tab_nil _)) (clsC 5 (tab_cons (w_m_raft_Same_1 g2) (tab_nil _)) (clsC 12 (tab_cons (w_m_logs_Same g4) (tab_nil _)) (clsC 19 (tab_cons (w_m_slices_Equal_byte_byte g6) (tab_nil _)) (clsC 26 (tab_cons (w_m_slices_Equal_bool_bool g8) (tab_nil _)) (clsC 33 (tab_cons (w_m_slices_Equal_int_int g10) (tab_nil _)) (clsC 40 (tab_cons (w_m_slices_Equal_int_int g12) (tab_nil _)) (clsN _)))))))) ?_
            refine seqN (Wp.ret ?_)
            exact finP
          · replace h := retS h; subst h
            refine drawP [] mixed (clsC 2 (tab_cons (w_m_raft_Same_1 g1) (tab_nil _)) (clsC 5 (tab_cons (w_m_raft_Same_1 g2) (tab_nil _)) (clsC 12 (tab_cons (w_m_logs_Same g4) (tab_nil _)) (clsC 19 (tab_cons (w_m_slices_Equal_byte_byte g6) (tab_nil _)) (clsC 26 (tab_cons (w_m_slices_Equal_bool_bool g8) (tab_nil _)) (clsC 33 (tab_cons (w_m_slices_Equal_int_int g10) (tab_nil _)) (clsN _))))))) ?_
            refine seqN (Wp.ret ?_)
            exact finP
        · replace h := retS h; subst h
          refine drawP [] mixed (clsC 2 (tab_cons (w_m_raft_Same_1 g1) (tab_nil _)) (clsC 5 (tab_cons (w_m_raft_Same_1 g2) (tab_nil _)) (clsC 12 (tab_cons (w_m_logs_Same g4) (tab_nil _)) (clsC 19 (tab_cons (w_m_slices_Equal_byte_byte g6) (tab_nil _)) (clsC 26 (tab_cons (w_m_slices_Equal_bool_bool g8) (tab_nil _)) (clsN _)))))) ?_
          refine seqN (Wp.ret ?_)
          exact finP
      · replace h := retS h; subst h
        refine drawP [] mixed (clsC 2 (tab_cons (w_m_raft_Same_1 g1) (tab_nil _)) (clsC 5 (tab_cons (w_m_raft_Same_1 g2) (tab_nil _)) (clsC 12 (tab_cons (w_m_logs_Same g4) (tab_nil _)) (clsC 19 (tab_cons (w_m_slices_Equal_byte_byte g6) (tab_nil _)) (clsN _))))) (seqN (Wp.ret ?_))
        exact finP
    · replace h := retS h; subst h
      refine drawP [] mixed (clsC 2 (tab_cons (w_m_raft_Same_1 g1) (tab_nil _)) (clsC 5 (tab_cons (w_m_raft_Same_1 g2) (tab_nil _)) (clsC 12 (tab_cons (w_m_logs_Same g4) (tab_nil _)) (clsN _)))) (seqN (Wp.ret ?_))
      exact finP
  · replace h := retS h; subst h
    refine drawP [] mixed (clsC 2 (tab_cons (w_m_raft_Same_1 g1) (tab_nil _)) (clsC 5 (tab_cons (w_m_raft_Same_1 g2) (tab_nil _)) (clsN _))) (seqN (Wp.ret ?_))
    exact finP
/-! funicular/funicularref13.Weight -/
noncomputable abbrev qf_9 (r : Int) : Ex → St → Prop := FinQ 0 [.tmp 4] (.int .i64 r) [] 0
theorem w_m_ref13_Weight_k1 {most : Int} {l : (List TEntry)} {n0 : Int} {i : Int} {v15 : Bool} {r : Int} {rec_m_ref13_Weight_l1 : Int → Int → Option Int} (hrec_m_ref13_Weight_l1 : ∀ {n0 : Int} {i : Int}, rec_m_ref13_Weight_l1 n0 i = some r → LWp Pg 29 0 i9_L0 ⟨[(0, sl TEntry.c l), (1, .int .i64 most), (4, .bad), (5, .int .i64 n0), (6, .int .i64 i), (15, .bad)], [], [], 0⟩ (blockQ 0 (seqQ Pg 29 0 (.seq (.reg none i9_R6) .ret) (qf_9 r)))) (h : m_ref13_Weight_k1 rec_m_ref13_Weight_l1 l n0 i v15 = some r) : Wp Pg 29 0 (.cond (.t 15) .skip (.out 0)) ⟨[(0, sl TEntry.c l), (1, .int .i64 most), (4, .bad), (5, .int .i64 n0), (6, .int .i64 i), (15, .bool v15)], [], [], 0⟩ (seqQ Pg 29 0 (.seq (.block 1 (.reg none i9_R4)) (.reg none i9_R5)) (loopQ Pg 29 0 i9_L0 (blockQ 0 (seqQ Pg 29 0 (.seq (.reg none i9_R6) .ret) (qf_9 r))))) := by
  unfold m_ref13_Weight_k1 at h
  replace h := ifS h; rcases h with ⟨g2, h⟩ | ⟨g2, h⟩
  · refine condTP (Wp.skip (seqN (Wp.seq (Wp.block ?_))))
    replace h := bndS h; obtain ⟨e, g3, h⟩ := h
    refine regP (blockN (seqN ?_))
    refine regP (loopN ?_)
    exact jumpL [.kill [15]] (hrec_m_ref13_Weight_l1 h)
  · replace h := retS h; subst h
    refine condFP (Wp.out (seqO (loopO (blockO (seqN (Wp.seq ?_))))))
    refine regP (seqN (Wp.ret ?_))
    exact finP
theorem w_m_ref13_Weight_l1_B {l : (List TEntry)} {most : Int} {r : Int}   {rec_m_ref13_Weight_l1 : Int → Int → Option Int} (hrec_m_ref13_Weight_l1 : ∀ {n0 : Int} {i : Int}, rec_m_ref13_Weight_l1 n0 i = some r → LWp Pg 29 0 i9_L0 ⟨[(0, sl TEntry.c l), (1, .int .i64 most), (4, .bad), (5, .int .i64 n0), (6, .int .i64 i), (15, .bad)], [], [], 0⟩ (blockQ 0 (seqQ Pg 29 0 (.seq (.reg none i9_R6) .ret) (qf_9 r)))) {n0 : Int} {i : Int} (h : m_ref13_Weight_l1_B  l most rec_m_ref13_Weight_l1 n0 i = some r) : LWp Pg 29 0 i9_L0 ⟨[(0, sl TEntry.c l), (1, .int .i64 most), (4, .bad), (5, .int .i64 n0), (6, .int .i64 i), (15, .bad)], [], [], 0⟩ (blockQ 0 (seqQ Pg 29 0 (.seq (.reg none i9_R6) .ret) (qf_9 r))) := by
  unfold m_ref13_Weight_l1_B at h
  refine LWp.stepC i9_L0.eq_1 ?_
  refine Wp.seq (Wp.seq ?_)
  replace h := ifS h; rcases h with ⟨g1, h⟩ | ⟨g1, h⟩
  · refine regP (seqN ?_)
    exact jumpK [] (w_m_ref13_Weight_k1 (most := most) hrec_m_ref13_Weight_l1 h)
  · refine regP (seqN ?_)
    exact jumpK [] (w_m_ref13_Weight_k1 (most := most) hrec_m_ref13_Weight_l1 h)
theorem w_m_ref13_Weight_l1 {l : (List TEntry)} {most : Int} {r : Int}   : ∀ (n : Nat) {n0 : Int} {i : Int}, m_ref13_Weight_l1  l most n n0 i = some r → LWp Pg 29 0 i9_L0 ⟨[(0, sl TEntry.c l), (1, .int .i64 most), (4, .bad), (5, .int .i64 n0), (6, .int .i64 i), (15, .bad)], [], [], 0⟩ (blockQ 0 (seqQ Pg 29 0 (.seq (.reg none i9_R6) .ret) (qf_9 r))) := by
  intro n
  induction n with
  | zero => intro n0 i h; unfold m_ref13_Weight_l1 at h; cases h
  | succ n ih => intro n0 i h; unfold m_ref13_Weight_l1 at h; exact w_m_ref13_Weight_l1_B  ih h
theorem w_m_ref13_Weight {l : (List TEntry)} {most : Int} {r : Int}   (h : m_ref13_Weight l most = some r) : Spec Pg 9 [sl TEntry.c l, .int .i64 most] [] 0 (.int .i64 r) [] 0 := by
  refine Spec.intro Go.Proofs.Try.func9 i9_ok (le_of_ble rfl) ?_
  show Wp Pg 29 0 i9_B ⟨argEnv [sl TEntry.c l, .int .i64 most] i9_V, [], [], 0⟩ (qf_9 r)
  unfold m_ref13_Weight at h
  unfold i9_B
  refine weakP [] ?_
  refine Wp.seq (regP (seqN (Wp.seq ?_)))
  refine regP (seqN (Wp.seq (Wp.seq ?_)))
  refine regP (seqN (Wp.block (Wp.loop ?_)))
  exact jumpL [.kill [4, 15]] (w_m_ref13_Weight_l1 _ h)
/-! funicular/funicularlaw15.RaftBegins -/
noncomputable abbrev qf_3 (r : Bool) : Ex → St → Prop := FinQ 0 [.tmp 12] (.bool r) [] 0
theorem w_m_law15_RaftBegins_k1 {id : Int} {n0 : Int} {term : Int} {vote : Int} {l : TLog} {snap : (List Int)} {v29 : Bool} {r : Bool}   (h : m_law15_RaftBegins_k1 id n0 term vote l snap v29 = some r) : Wp Pg 93 0 (.cond (.t 29) (.seq (.reg none i3_R2) .ret) .skip) ⟨[(0, .int .i64 id), (1, .int .i64 n0), (2, .int .i64 term), (3, .int .i64 vote), (4, .bad), (5, sl (ci .u8) snap), (10, .ptr 0 0), (12, .bad), (13, .bad), (14, .bad), (15, .bad), (16, .bad), (17, .bad), (18, .bad), (19, .bad), (20, .bad), (29, .bool v29)], [], [(0, .box [.int .i64 l.Base, .int .i64 l.BaseTerm, sl TEntry.c l.Entries])], 1⟩ (seqQ Pg 93 0 (.seq (.reg none i3_R3) (.seq (.reg none i3_R4) (.seq (.reg none i3_R5) (.seq (.reg none i3_R6) (.seq (.reg (some [(21, 22), (21, 23)]) i3_R7) .ret))))) (qf_3 r)) := by
  unfold m_law15_RaftBegins_k1 at h
  replace h := ifS h; rcases h with ⟨g3, h⟩ | ⟨g3, h⟩
  · refine condTP (Wp.seq (Wp.reg ?_))
    replace h := bndS h; obtain ⟨r0_1, g4, h⟩ := h
    replace h := retS h; subst h
    refine chunkT 1 (tab_cons (w_m_law15_works g4) (tab_nil _)) ?_
    refine lastT (tab_nil _) (seqN (Wp.ret (seqR ?_)))
    exact finP
  · refine condFP (Wp.skip (seqN (Wp.seq (Wp.reg ?_))))
    replace h := bndS h; obtain ⟨r0_2, g5, h⟩ := h
    refine chunkT 3 (tab_cons (w_m_raft_New g5) (tab_nil _)) ?_
    refine lastT (tab_nil _) (seqN (Wp.seq (Wp.reg ?_)))
    replace h := bndS h; obtain ⟨r0_3, g6, h⟩ := h
    refine chunkT 3 (tab_cons (w_m_ref15_New g6) (tab_nil _)) ?_
    refine lastT (tab_nil _) (seqN (Wp.seq (Wp.reg ?_)))
    replace h := bndS h; obtain ⟨r0_4, g7, h⟩ := h
    refine chunkT 7 (tab_cons (w_m_raft_Restart g7) (tab_nil _)) ?_
    refine lastT (tab_nil _) (seqN (Wp.seq (Wp.reg ?_)))
    replace h := bndS h; obtain ⟨r0_5, g8, h⟩ := h
    refine chunkT 7 (tab_cons (w_m_ref15_Restart g8) (tab_nil _)) ?_
    refine lastT (tab_nil _) (seqN (Wp.seq ?_))
    replace h := ifS h; rcases h with ⟨g9, h⟩ | ⟨g9, h⟩
    · replace h := ifS h; rcases h with ⟨g10, h⟩ | ⟨g10, h⟩
      · replace h := bndS h; obtain ⟨r0_6, g11, h⟩ := h
        replace h := ifS h; rcases h with ⟨g12, h⟩ | ⟨g12, h⟩
        · replace h := bndS h; obtain ⟨r0_7, g13, h⟩ := h
          replace h := ifS h; rcases h with ⟨g14, h⟩ | ⟨g14, h⟩
          · replace h := bndS h; obtain ⟨r0_8, g15, h⟩ := h
            replace h := bndS h; obtain ⟨r0_9, g16, h⟩ := h
            replace h := ifS h; rcases h with ⟨g17, h⟩ | ⟨g17, h⟩
            · replace h := bndS h; obtain ⟨r0_10, g18, h⟩ := h
              replace h := retS h; subst h
              refine drawP [] mixed (clsC 11 (tab_cons (w_m_ref15_Same g11) (tab_nil _)) (clsC 16 (tab_cons (w_m_ref15_Same g13) (tab_nil _)) (clsC 21 (tab_cons (w_m_raft_Same g15) (tab_nil _)) (clsC 24 (tab_cons (w_m_ref15_Same g16) (tab_nil _)) (clsC 28 (tab_cons (w_m_law15_works g18) (tab_nil _)) (clsN _)))))) ?_
              refine seqN (Wp.ret ?_)
              exact finP
            · replace h := retS h; subst h
              refine drawP [] mixed (clsC 11 (tab_cons (w_m_ref15_Same g11) (tab_nil _)) (clsC 16 (tab_cons (w_m_ref15_Same g13) (tab_nil _)) (clsC 21 (tab_cons (w_m_raft_Same g15) (tab_nil _)) (clsC 24 (tab_cons (w_m_ref15_Same g16) (tab_nil _)) (clsN _))))) (seqN (Wp.ret ?_))
              exact finP
          · replace h := retS h; subst h
            refine drawP [] mixed (clsC 11 (tab_cons (w_m_ref15_Same g11) (tab_nil _)) (clsC 16 (tab_cons (w_m_ref15_Same g13) (tab_nil _)) (clsN _))) (seqN (Wp.ret ?_))
            exact finP
        · replace h := retS h; subst h
          refine drawP [] mixed (clsC 11 (tab_cons (w_m_ref15_Same g11) (tab_nil _)) (clsN _)) (seqN (Wp.ret ?_))
          exact finP
      · replace h := retS h; subst h
        refine drawP [] mixed (clsN _) (seqN (Wp.ret ?_))
        exact finP
    · replace h := retS h; subst h
      refine drawP [] mixed (clsN _) (seqN (Wp.ret ?_))
      exact finP
theorem w_m_law15_RaftBegins {id : Int} {n0 : Int} {term : Int} {vote : Int} {l : TLog} {snap : (List Int)} {r : Bool}   (h : m_law15_RaftBegins id n0 term vote l snap = some r) : Spec Pg 3 [.int .i64 id, .int .i64 n0, .int .i64 term, .int .i64 vote, .agg [.int .i64 l.Base, .int .i64 l.BaseTerm, sl TEntry.c l.Entries], sl (ci .u8) snap] [] 0 (.bool r) [] 0 := by
  refine Spec.intro Go.Proofs.Try.func3 i3_ok (le_of_ble rfl) ?_
  show Wp Pg 93 0 i3_B ⟨argEnv [.int .i64 id, .int .i64 n0, .int .i64 term, .int .i64 vote, .agg [.int .i64 l.Base, .int .i64 l.BaseTerm, sl TEntry.c l.Entries], sl (ci .u8) snap] i3_V, [], [], 0⟩ (qf_3 r)
  unfold m_law15_RaftBegins at h
  unfold i3_B
  refine weakP [] ?_
  refine Wp.seq (regP (seqN (Wp.seq (Wp.seq (Wp.reg ?_)))))
  replace h := bndS h; obtain ⟨r0, g1, h⟩ := h
  refine chunkT 3 (tab_cons (w_m_ref13_Weight g1) (tab_nil _)) ?_
  replace h := ifS h; rcases h with ⟨g2, h⟩ | ⟨g2, h⟩
  · refine lastT (tab_nil _) (seqN ?_)
    exact jumpK [.kill [4, 12, 13, 14, 15, 16, 17, 18, 19, 20]] (w_m_law15_RaftBegins_k1 h)
  · refine lastT (tab_nil _) (seqN ?_)
    exact jumpK [.kill [4, 12, 13, 14, 15, 16, 17, 18, 19, 20]] (w_m_law15_RaftBegins_k1 h)
end Go.Proofs.Ytgoachcogmlhcaa.R
