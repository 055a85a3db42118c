/- The program's functions answer what the models answer: 1. -/
import Derived.Test.YtgoachcogmlhcaaMW0
set_option maxRecDepth 100000
set_option linter.unusedVariables false
set_option linter.unusedSimpArgs false
set_option linter.defProp false
noncomputable section
namespace Go.Proofs.Ytgoachcogmlhcaa.R
open Go Nat
/-! bytes.Equal -/
noncomputable abbrev qf_65 (r : Bool) : Ex → St → Prop := FinQ 0 [.tmp 4] (.bool r) [] 0
theorem w_m_bytes_Equal {a : (List Int)} {b : (List Int)} {r : Bool}   (h : m_bytes_Equal a b = some r) : Spec Pg 65 [sl (ci .u8) a, sl (ci .u8) b] [] 0 (.bool r) [] 0 := by
  refine Spec.intro Go.Proofs.Try.func65 i65_ok (le_of_ble rfl) ?_
  show Wp Pg 10 0 i65_B ⟨argEnv [sl (ci .u8) a, sl (ci .u8) b] i65_V, [], [], 0⟩ (qf_65 r)
  unfold m_bytes_Equal at h
  unfold i65_B
  refine weakP [] ?_
  replace h := retS h; subst h
  refine Wp.seq (regP (seqN (Wp.seq ?_)))
  refine regP (seqN (Wp.ret ?_))
  exact finP
/-! funicular/logs.Same$2 -/
noncomputable abbrev qf_64 (r : Bool) : Ex → St → Prop := FinQ 0 [.tmp 4] (.bool r) [] 0
theorem w_m_logs_Same_2 {x0 : TEntry} {y : TEntry} {r : Bool}   (h : m_logs_Same_2 x0 y = some r) : Spec Pg 64 [.agg [.int .i64 x0.Term, sl (ci .u8) x0.Data], .agg [.int .i64 y.Term, sl (ci .u8) y.Data]] [] 0 (.bool r) [] 0 := by
  refine Spec.intro Go.Proofs.Try.func64 i64_ok (le_of_ble rfl) ?_
  show Wp Pg 17 0 i64_B ⟨argEnv [.agg [.int .i64 x0.Term, sl (ci .u8) x0.Data], .agg [.int .i64 y.Term, sl (ci .u8) y.Data]] i64_V, [], [], 0⟩ (qf_64 r)
  unfold m_logs_Same_2 at h
  unfold i64_B
  refine weakP [] ?_
  refine Wp.seq (regP (seqN (Wp.seq (Wp.reg ?_))))
  replace h := ifS h; rcases h with ⟨g1, h⟩ | ⟨g1, h⟩
  · replace h := bndS h; obtain ⟨r0, g2, h⟩ := h
    replace h := retS h; subst h
    refine chunkT 11 (tab_cons (w_m_bytes_Equal g2) (tab_nil _)) ?_
    refine lastT (tab_nil _) (seqN (Wp.ret ?_))
    exact finP
  · replace h := retS h; subst h
    refine lastT (tab_nil _) (seqN (Wp.ret ?_))
    exact finP
/-! slices.EqualFunc[[]funicular/api.Entry,[]funicular/api.Entry,funicular/api.Entry,funicular/api.Entry] -/
noncomputable abbrev qf_63_v0 (r : Bool) : Ex → St → Prop := FinQ 0 [.tmp 6] (.bool r) [] 0
theorem w_m_slices_EqualFunc_api_Entry_api_Entry_api_Entry_api_Entry_l1_B {s1 : (List TEntry)} {s2 : (List TEntry)} {r : Bool}   {rec_m_slices_EqualFunc_api_Entry_api_Entry_api_Entry_api_Entry_l1 : Int → Option Bool} (hrec_m_slices_EqualFunc_api_Entry_api_Entry_api_Entry_api_Entry_l1 : ∀ {v17 : Int}, rec_m_slices_EqualFunc_api_Entry_api_Entry_api_Entry_api_Entry_l1 v17 = some r → LWp Pg 32 0 i63_L0 ⟨[(0, .bad), (1, sl TEntry.c s2), (2, .fn (.func 64) [] []), (6, .bad), (7, .bad), (8, .bad), (9, .bad), (14, .bad), (15, sl TEntry.c s1), (16, .int .i64 (s1.length : Int)), (17, .int .i64 v17), (18, .bad), (30, .bad)], [], [], 0⟩ (blockQ 0 (seqQ Pg 32 0 (.seq (.reg none i63_R10) .ret) (qf_63_v0 r)))) {v17 : Int} (h : m_slices_EqualFunc_api_Entry_api_Entry_api_Entry_api_Entry_l1_B  s1 s2 rec_m_slices_EqualFunc_api_Entry_api_Entry_api_Entry_api_Entry_l1 v17 = some r) : LWp Pg 32 0 i63_L0 ⟨[(0, .bad), (1, sl TEntry.c s2), (2, .fn (.func 64) [] []), (6, .bad), (7, .bad), (8, .bad), (9, .bad), (14, .bad), (15, sl TEntry.c s1), (16, .int .i64 (s1.length : Int)), (17, .int .i64 v17), (18, .bad), (30, .bad)], [], [], 0⟩ (blockQ 0 (seqQ Pg 32 0 (.seq (.reg none i63_R10) .ret) (qf_63_v0 r))) := by
  unfold m_slices_EqualFunc_api_Entry_api_Entry_api_Entry_api_Entry_l1_B at h
  refine LWp.stepC i63_L0.eq_1 ?_
  refine Wp.seq (regP (seqN (Wp.seq ?_)))
  replace h := ifS h; rcases h with ⟨g2, h⟩ | ⟨g2, h⟩
  · refine condTP (Wp.skip (seqN (Wp.seq (Wp.block (Wp.seq ?_)))))
    replace h := bndS h; obtain ⟨e, g3, h⟩ := h
    refine regP (seqN (Wp.seq ?_))
    replace h := bndS h; obtain ⟨e_1, g4, h⟩ := h
    refine regP (seqN (Wp.seq (Wp.reg ?_)))
    replace h := bndS h; obtain ⟨r0, g5, h⟩ := h
    refine chunkT 4 (tab_cons (w_m_logs_Same_2 g5) (tab_nil _)) ?_
    refine lastT (tab_nil _) (seqN ?_)
    replace h := ifS h; rcases h with ⟨g6, h⟩ | ⟨g6, h⟩
    · refine condFP (Wp.skip (blockN (seqN ?_)))
      refine regP (loopN ?_)
      exact jumpL [.kill [7, 8, 9, 18, 30], .tidy] (hrec_m_slices_EqualFunc_api_Entry_api_Entry_api_Entry_api_Entry_l1 h)
    · replace h := retS h; subst h
      refine condTP (Wp.seq ?_)
      refine regP (seqN (Wp.ret (blockR (seqR (loopR (blockR (seqR ?_)))))))
      exact finP
  · replace h := retS h; subst h
    refine condFP (Wp.out (seqO (loopO (blockO (seqN (Wp.seq ?_))))))
    refine regP (seqN (Wp.ret ?_))
    exact finP
theorem w_m_slices_EqualFunc_api_Entry_api_Entry_api_Entry_api_Entry_l1 {s1 : (List TEntry)} {s2 : (List TEntry)} {r : Bool}   : ∀ (n : Nat) {v17 : Int}, m_slices_EqualFunc_api_Entry_api_Entry_api_Entry_api_Entry_l1  s1 s2 n v17 = some r → LWp Pg 32 0 i63_L0 ⟨[(0, .bad), (1, sl TEntry.c s2), (2, .fn (.func 64) [] []), (6, .bad), (7, .bad), (8, .bad), (9, .bad), (14, .bad), (15, sl TEntry.c s1), (16, .int .i64 (s1.length : Int)), (17, .int .i64 v17), (18, .bad), (30, .bad)], [], [], 0⟩ (blockQ 0 (seqQ Pg 32 0 (.seq (.reg none i63_R10) .ret) (qf_63_v0 r))) := by
  intro n
  induction n with
  | zero => intro v17 h; unfold m_slices_EqualFunc_api_Entry_api_Entry_api_Entry_api_Entry_l1 at h; cases h
  | succ n ih => intro v17 h; unfold m_slices_EqualFunc_api_Entry_api_Entry_api_Entry_api_Entry_l1 at h; exact w_m_slices_EqualFunc_api_Entry_api_Entry_api_Entry_api_Entry_l1_B  ih h
theorem w_m_slices_EqualFunc_api_Entry_api_Entry_api_Entry_api_Entry {s1 : (List TEntry)} {s2 : (List TEntry)} {r : Bool}   (h : m_slices_EqualFunc_api_Entry_api_Entry_api_Entry_api_Entry s1 s2 = some r) : Spec Pg 63 [sl TEntry.c s1, sl TEntry.c s2, .fn (.func 64) [] []] [] 0 (.bool r) [] 0 := by
  refine Spec.intro Go.Proofs.Try.func63 i63_ok (le_of_ble rfl) ?_
  show Wp Pg 32 0 i63_B ⟨argEnv [sl TEntry.c s1, sl TEntry.c s2, .fn (.func 64) [] []] i63_V, [], [], 0⟩ (qf_63_v0 r)
  unfold m_slices_EqualFunc_api_Entry_api_Entry_api_Entry_api_Entry at h
  unfold i63_B
  refine weakP [] ?_
  refine Wp.seq (regP (seqN (Wp.seq (Wp.seq ?_))))
  refine regP (seqN ?_)
  replace h := ifS h; rcases h with ⟨g1, h⟩ | ⟨g1, h⟩
  · replace h := retS h; subst h
    refine condTP (Wp.seq ?_)
    refine regP (seqN (Wp.ret (seqR ?_)))
    exact finP
  · refine condFP (Wp.skip (seqN (Wp.seq (Wp.seq ?_))))
    refine regP (seqN (Wp.block (Wp.loop ?_)))
    exact jumpL [.kill [0, 6, 7, 8, 9, 14, 18, 30]] (w_m_slices_EqualFunc_api_Entry_api_Entry_api_Entry_api_Entry_l1 _ h)
theorem w_m_law15_works {r : Bool} (h : m_law15_works = some r) : Spec Pg 10 [] [] 0 (.bool r) [] 0 := by
  obtain rfl := retS h
  exact m_law15_works_spec
/-! funicular/raft.New -/
noncomputable abbrev qf_11 (r : (TRaft × Int)) : Ex → St → Prop := FinQ 0 [.cell 4 true 16, .tmp 5] (.tup [.agg [.int .i64 r.1.Id, .int .i64 r.1.N, .int .i64 r.1.Term, .int .i64 r.1.Vote, .int .i64 r.1.Role, .int .i64 r.1.Lead, .int .i64 r.1.Log.Base, .int .i64 r.1.Log.BaseTerm, sl TEntry.c r.1.Log.Entries, .int .i64 r.1.Commit, sl (ci .u8) r.1.Snap, sl cb r.1.Granted, sl (ci .i64) r.1.Next, sl (ci .i64) r.1.Match, .int .i64 r.1.Clock, .int .i64 r.1.Wait], .int .i64 r.2]) [] 0
theorem w_m_raft_New_k1 {id : Int} {n0 : Int} {v20 : Bool} {r : (TRaft × Int)}   (h : m_raft_New_k1 id n0 v20 = some r) : Wp Pg 27 0 (.cond (.t 20) (.seq (.reg none i11_R2) .ret) .skip) ⟨[(0, .int .i64 id), (1, .int .i64 n0), (4, .ptr 0 0), (5, .bad), (20, .bool v20)], [], [(0, .box [.int .i64 (0 : Int), .int .i64 (0 : Int), .int .i64 (0 : Int), .int .i64 (0 : Int), .int .i64 (0 : Int), .int .i64 (0 : Int), .int .i64 (0 : Int), .int .i64 (0 : Int), .nil, .int .i64 (0 : Int), .nil, .nil, .nil, .nil, .int .i64 (0 : Int), .int .i64 (0 : Int)])], 1⟩ (seqQ Pg 27 0 (.seq (.reg none i11_R3) .ret) (qf_11 r)) := by
  unfold m_raft_New_k1 at h
  replace h := ifS h; rcases h with ⟨g4, h⟩ | ⟨g4, h⟩
  · replace h := retS h; subst h
    refine condTP (Wp.seq ?_)
    refine regP (seqN ?_)
    refine weakP [.cell 4 8 .frz, .cell 4 10 .frz, .cell 4 11 .frz, .cell 4 12 .frz, .cell 4 13 .frz] (Wp.ret (seqR ?_))
    exact finP
  · replace h := retS h; subst h
    refine condFP (Wp.skip (seqN (Wp.seq ?_)))
    refine regP (seqN ?_)
    refine weakP [.cell 4 8 .frz, .cell 4 10 .frz, .cell 4 11 .frz, .cell 4 12 .frz, .cell 4 13 .frz] (Wp.ret ?_)
    exact finP
theorem w_m_raft_New {id : Int} {n0 : Int} {r : (TRaft × Int)}   (h : m_raft_New id n0 = some r) : Spec Pg 11 [.int .i64 id, .int .i64 n0] [] 0 (.tup [.agg [.int .i64 r.1.Id, .int .i64 r.1.N, .int .i64 r.1.Term, .int .i64 r.1.Vote, .int .i64 r.1.Role, .int .i64 r.1.Lead, .int .i64 r.1.Log.Base, .int .i64 r.1.Log.BaseTerm, sl TEntry.c r.1.Log.Entries, .int .i64 r.1.Commit, sl (ci .u8) r.1.Snap, sl cb r.1.Granted, sl (ci .i64) r.1.Next, sl (ci .i64) r.1.Match, .int .i64 r.1.Clock, .int .i64 r.1.Wait], .int .i64 r.2]) [] 0 := by
  refine Spec.intro Go.Proofs.Try.func11 i11_ok (le_of_ble rfl) ?_
  show Wp Pg 27 0 i11_B ⟨argEnv [.int .i64 id, .int .i64 n0] i11_V, [], [], 0⟩ (qf_11 r)
  unfold m_raft_New at h
  unfold i11_B
  refine weakP [] ?_
  refine Wp.seq (regP (seqN (Wp.seq (Wp.seq ?_))))
  replace h := ifS h; rcases h with ⟨g1, h⟩ | ⟨g1, h⟩
  · refine regP (seqN ?_)
    exact jumpK [.kill [5]] (w_m_raft_New_k1 h)
  · replace h := ifS h; rcases h with ⟨g2, h⟩ | ⟨g2, h⟩
    · refine regP (seqN ?_)
      exact jumpK [.kill [5]] (w_m_raft_New_k1 h)
    · replace h := ifS h; rcases h with ⟨g3, h⟩ | ⟨g3, h⟩
      · refine regP (seqN ?_)
        exact jumpK [.kill [5]] (w_m_raft_New_k1 h)
      · refine regP (seqN ?_)
        exact jumpK [.kill [5]] (w_m_raft_New_k1 h)
/-! funicular/funicularref15.New -/
noncomputable abbrev qf_12 (r : (TRaft × Int)) : Ex → St → Prop := FinQ 0 [.cell 4 true 16, .tmp 5] (.tup [.agg [.int .i64 r.1.Id, .int .i64 r.1.N, .int .i64 r.1.Term, .int .i64 r.1.Vote, .int .i64 r.1.Role, .int .i64 r.1.Lead, .int .i64 r.1.Log.Base, .int .i64 r.1.Log.BaseTerm, sl TEntry.c r.1.Log.Entries, .int .i64 r.1.Commit, sl (ci .u8) r.1.Snap, sl cb r.1.Granted, sl (ci .i64) r.1.Next, sl (ci .i64) r.1.Match, .int .i64 r.1.Clock, .int .i64 r.1.Wait], .int .i64 r.2]) [] 0
theorem w_m_ref15_New_k1 {id : Int} {n0 : Int} {v20 : Bool} {r : (TRaft × Int)}   (h : m_ref15_New_k1 id n0 v20 = some r) : Wp Pg 27 0 (.cond (.t 20) (.seq (.reg none i12_R2) .ret) .skip) ⟨[(0, .int .i64 id), (1, .int .i64 n0), (4, .ptr 0 0), (5, .bad), (20, .bool v20)], [], [(0, .box [.int .i64 (0 : Int), .int .i64 (0 : Int), .int .i64 (0 : Int), .int .i64 (0 : Int), .int .i64 (0 : Int), .int .i64 (0 : Int), .int .i64 (0 : Int), .int .i64 (0 : Int), .nil, .int .i64 (0 : Int), .nil, .nil, .nil, .nil, .int .i64 (0 : Int), .int .i64 (0 : Int)])], 1⟩ (seqQ Pg 27 0 (.seq (.reg none i12_R3) .ret) (qf_12 r)) := by
  unfold m_ref15_New_k1 at h
  replace h := ifS h; rcases h with ⟨g4, h⟩ | ⟨g4, h⟩
  · replace h := retS h; subst h
    refine condTP (Wp.seq ?_)
    refine regP (seqN ?_)
    refine weakP [.cell 4 8 .frz, .cell 4 10 .frz, .cell 4 11 .frz, .cell 4 12 .frz, .cell 4 13 .frz] (Wp.ret (seqR ?_))
    exact finP
  · replace h := retS h; subst h
    refine condFP (Wp.skip (seqN (Wp.seq ?_)))
    refine regP (seqN ?_)
    refine weakP [.cell 4 8 .frz, .cell 4 10 .frz, .cell 4 11 .frz, .cell 4 12 .frz, .cell 4 13 .frz] (Wp.ret ?_)
    exact finP
theorem w_m_ref15_New {id : Int} {n0 : Int} {r : (TRaft × Int)}   (h : m_ref15_New id n0 = some r) : Spec Pg 12 [.int .i64 id, .int .i64 n0] [] 0 (.tup [.agg [.int .i64 r.1.Id, .int .i64 r.1.N, .int .i64 r.1.Term, .int .i64 r.1.Vote, .int .i64 r.1.Role, .int .i64 r.1.Lead, .int .i64 r.1.Log.Base, .int .i64 r.1.Log.BaseTerm, sl TEntry.c r.1.Log.Entries, .int .i64 r.1.Commit, sl (ci .u8) r.1.Snap, sl cb r.1.Granted, sl (ci .i64) r.1.Next, sl (ci .i64) r.1.Match, .int .i64 r.1.Clock, .int .i64 r.1.Wait], .int .i64 r.2]) [] 0 := by
  refine Spec.intro Go.Proofs.Try.func12 i12_ok (le_of_ble rfl) ?_
  show Wp Pg 27 0 i12_B ⟨argEnv [.int .i64 id, .int .i64 n0] i12_V, [], [], 0⟩ (qf_12 r)
  unfold m_ref15_New at h
  unfold i12_B
  refine weakP [] ?_
  refine Wp.seq (regP (seqN (Wp.seq (Wp.seq ?_))))
  replace h := ifS h; rcases h with ⟨g1, h⟩ | ⟨g1, h⟩
  · refine regP (seqN ?_)
    exact jumpK [.kill [5]] (w_m_ref15_New_k1 h)
  · replace h := ifS h; rcases h with ⟨g2, h⟩ | ⟨g2, h⟩
    · refine regP (seqN ?_)
      exact jumpK [.kill [5]] (w_m_ref15_New_k1 h)
    · replace h := ifS h; rcases h with ⟨g3, h⟩ | ⟨g3, h⟩
      · refine regP (seqN ?_)
        exact jumpK [.kill [5]] (w_m_ref15_New_k1 h)
      · refine regP (seqN ?_)
        exact jumpK [.kill [5]] (w_m_ref15_New_k1 h)
/-! funicular/logs.Last -/
noncomputable abbrev qf_55 (r : Int) : Ex → St → Prop := FinQ 0 [.tmp 2] (.int .i64 r) [] 0
theorem w_m_logs_Last {l : TLog} {r : Int}   (h : m_logs_Last l = some r) : Spec Pg 55 [.agg [.int .i64 l.Base, .int .i64 l.BaseTerm, sl TEntry.c l.Entries]] [] 0 (.int .i64 r) [] 0 := by
  refine Spec.intro Go.Proofs.Try.func55 i55_ok (le_of_ble rfl) ?_
  show Wp Pg 9 0 i55_B ⟨argEnv [.agg [.int .i64 l.Base, .int .i64 l.BaseTerm, sl TEntry.c l.Entries]] i55_V, [], [], 0⟩ (qf_55 r)
  unfold m_logs_Last at h
  unfold i55_B
  refine weakP [] ?_
  replace h := retS h; subst h
  refine Wp.seq (regP (seqN (Wp.seq ?_)))
  refine regP (seqN (Wp.ret ?_))
  exact finP
/-! funicular/logs.Term -/
noncomputable abbrev qf_59 (r : (Int × Bool)) : Ex → St → Prop := FinQ 0 [.tmp 4, .tmp 5] (.tup [.int .i64 r.1, .bool r.2]) [] 0
theorem w_m_logs_Term_k1 {l : TLog} {at0 : Int} {v13 : Bool} {r : (Int × Bool)}   (h : m_logs_Term_k1 l at0 v13 = some r) : Wp Pg 34 0 (.cond (.t 13) (.seq (.reg none i59_R4) .ret) .skip) ⟨[(0, .bad), (1, .int .i64 at0), (2, .ptr 0 0), (4, .bad), (5, .bad), (6, .bad), (13, .bool v13)], [], [(0, .box [.int .i64 l.Base, .int .i64 l.BaseTerm, sl TEntry.c l.Entries])], 1⟩ (blockQ 0 (seqQ Pg 34 0 (.seq (.reg none i59_R5) .ret) (qf_59 r))) := by
  unfold m_logs_Term_k1 at h
  replace h := ifS h; rcases h with ⟨g4, h⟩ | ⟨g4, h⟩
  · replace h := retS h; subst h
    refine condTP (Wp.seq ?_)
    refine regP (seqN (Wp.ret (blockR (seqR ?_))))
    exact finP
  · refine condFP (Wp.skip (blockN (seqN (Wp.seq ?_))))
    replace h := bndS h; obtain ⟨e, g5, h⟩ := h
    replace h := retS h; subst h
    refine regP (seqN (Wp.ret ?_))
    exact finP
theorem w_m_logs_Term {l : TLog} {at0 : Int} {r : (Int × Bool)}   (h : m_logs_Term l at0 = some r) : Spec Pg 59 [.agg [.int .i64 l.Base, .int .i64 l.BaseTerm, sl TEntry.c l.Entries], .int .i64 at0] [] 0 (.tup [.int .i64 r.1, .bool r.2]) [] 0 := by
  refine Spec.intro Go.Proofs.Try.func59 i59_ok (le_of_ble rfl) ?_
  show Wp Pg 34 0 i59_B ⟨argEnv [.agg [.int .i64 l.Base, .int .i64 l.BaseTerm, sl TEntry.c l.Entries], .int .i64 at0] i59_V, [], [], 0⟩ (qf_59 r)
  unfold m_logs_Term at h
  unfold i59_B
  refine weakP [] ?_
  refine Wp.seq (regP (seqN (Wp.seq (Wp.block (Wp.seq ?_)))))
  refine regP (seqN ?_)
  replace h := ifS h; rcases h with ⟨g1, h⟩ | ⟨g1, h⟩
  · replace h := retS h; subst h
    refine condTP (Wp.seq ?_)
    refine regP (seqN (Wp.ret (blockR (seqR ?_))))
    exact finP
  · refine condFP (Wp.seq (Wp.reg ?_))
    replace h := ifS h; rcases h with ⟨g2, h⟩ | ⟨g2, h⟩
    · refine lastT (tab_nil _) (seqN ?_)
      exact jumpK [.kill [0, 4, 5, 6]] (w_m_logs_Term_k1 h)
    · replace h := bndS h; obtain ⟨r0, g3, h⟩ := h
      refine chunkT 8 (tab_cons (w_m_logs_Last g3) (tab_nil _)) ?_
      refine lastT (tab_nil _) (seqN ?_)
      exact jumpK [.kill [0, 4, 5, 6]] (w_m_logs_Term_k1 h)
/-! funicular/logs.LastTerm -/
noncomputable abbrev qf_32 (r : Int) : Ex → St → Prop := FinQ 0 [.tmp 2] (.int .i64 r) [] 0
theorem w_m_logs_LastTerm {l : TLog} {r : Int}   (h : m_logs_LastTerm l = some r) : Spec Pg 32 [.agg [.int .i64 l.Base, .int .i64 l.BaseTerm, sl TEntry.c l.Entries]] [] 0 (.int .i64 r) [] 0 := by
  refine Spec.intro Go.Proofs.Try.func32 i32_ok (le_of_ble rfl) ?_
  show Wp Pg 13 0 i32_B ⟨argEnv [.agg [.int .i64 l.Base, .int .i64 l.BaseTerm, sl TEntry.c l.Entries]] i32_V, [], [], 0⟩ (qf_32 r)
  unfold m_logs_LastTerm at h
  unfold i32_B
  refine weakP [] ?_
  refine Wp.seq (regP (seqN (Wp.seq ?_)))
  replace h := bndS h; obtain ⟨r0, g1, h⟩ := h
  replace h := bndS h; obtain ⟨r0_1, g2, h⟩ := h
  replace h := retS h; subst h
  refine drawP [] mixed (clsC 2 (tab_cons (w_m_logs_Last g1) (tab_nil _)) (clsC 3 (tab_cons (w_m_logs_Term g2) (tab_nil _)) (clsN _))) (seqN (Wp.seq ?_))
  refine regP (seqN (Wp.ret ?_))
  exact finP
/-! funicular/logs.Check -/
noncomputable abbrev qf_33 (r : Int) : Ex → St → Prop := FinQ 0 [.tmp 2] (.int .i64 r) [] 0
theorem w_m_logs_Check_k2 {l : TLog} {v39 : Int} {e : TEntry} {v51 : Bool} {r : Int} {rec_m_logs_Check_l1 : Int → Int → Option Int} (hrec_m_logs_Check_l1 : ∀ {term : Int} {v39 : Int}, rec_m_logs_Check_l1 term v39 = some r → LWp Pg 55 0 i33_L0 ⟨[(0, .bad), (1, .bad), (2, .bad), (3, .int .i64 term), (5, .bad), (32, .bad), (37, sl TEntry.c l.Entries), (38, .int .i64 (l.Entries.length : Int)), (39, .int .i64 v39), (40, .bad), (51, .bad)], [], [], 0⟩ (blockQ 0 (seqQ Pg 55 0 (.seq (.reg none i33_R11) .ret) (qf_33 r)))) (h : m_logs_Check_k2 rec_m_logs_Check_l1 v39 e v51 = some r) : Wp Pg 55 0 (.cond (.t 51) (.seq (.reg none i33_R8) .ret) .skip) ⟨[(0, .bad), (1, .bad), (2, .bad), (3, .bad), (5, .ptr 0 0), (32, .bad), (37, sl TEntry.c l.Entries), (38, .int .i64 (l.Entries.length : Int)), (39, .int .i64 v39), (40, .bad), (51, .bool v51)], [], [(0, .box [.int .i64 e.Term, sl (ci .u8) e.Data])], 1⟩ (seqQ Pg 55 0 (.reg none i33_R9) (blockQ 1 (seqQ Pg 55 0 (.reg none i33_R10) (loopQ Pg 55 0 i33_L0 (blockQ 0 (seqQ Pg 55 0 (.seq (.reg none i33_R11) .ret) (qf_33 r))))))) := by
  unfold m_logs_Check_k2 at h
  replace h := ifS h; rcases h with ⟨g9, h⟩ | ⟨g9, h⟩
  · replace h := retS h; subst h
    refine condTP (Wp.seq ?_)
    refine regP (seqN (Wp.ret (seqR (blockR (seqR (loopR (blockR (seqR ?_))))))))
    exact finP
  · refine condFP (Wp.skip (seqN ?_))
    refine regP (blockN (seqN ?_))
    refine regP (loopN ?_)
    exact jumpL [.kill [5, 51], .tidy] (hrec_m_logs_Check_l1 h)
theorem w_m_logs_Check_l1_B {l : TLog} {r : Int}   {rec_m_logs_Check_l1 : Int → Int → Option Int} (hrec_m_logs_Check_l1 : ∀ {term : Int} {v39 : Int}, rec_m_logs_Check_l1 term v39 = some r → LWp Pg 55 0 i33_L0 ⟨[(0, .bad), (1, .bad), (2, .bad), (3, .int .i64 term), (5, .bad), (32, .bad), (37, sl TEntry.c l.Entries), (38, .int .i64 (l.Entries.length : Int)), (39, .int .i64 v39), (40, .bad), (51, .bad)], [], [], 0⟩ (blockQ 0 (seqQ Pg 55 0 (.seq (.reg none i33_R11) .ret) (qf_33 r)))) {term : Int} {v39 : Int} (h : m_logs_Check_l1_B  l rec_m_logs_Check_l1 term v39 = some r) : LWp Pg 55 0 i33_L0 ⟨[(0, .bad), (1, .bad), (2, .bad), (3, .int .i64 term), (5, .bad), (32, .bad), (37, sl TEntry.c l.Entries), (38, .int .i64 (l.Entries.length : Int)), (39, .int .i64 v39), (40, .bad), (51, .bad)], [], [], 0⟩ (blockQ 0 (seqQ Pg 55 0 (.seq (.reg none i33_R11) .ret) (qf_33 r))) := by
  unfold m_logs_Check_l1_B at h
  refine LWp.stepC i33_L0.eq_1 ?_
  refine Wp.seq (regP (seqN (Wp.seq ?_)))
  replace h := ifS h; rcases h with ⟨g6, h⟩ | ⟨g6, h⟩
  · refine condTP (Wp.skip (seqN (Wp.seq (Wp.block (Wp.seq ?_)))))
    replace h := bndS h; obtain ⟨e, g7, h⟩ := h
    refine regP (seqN (Wp.seq (Wp.seq ?_)))
    replace h := ifS h; rcases h with ⟨g8, h⟩ | ⟨g8, h⟩
    · refine regP (seqN ?_)
      exact jumpK [.kill [3, 40]] (w_m_logs_Check_k2 (l := l) hrec_m_logs_Check_l1 h)
    · refine regP (seqN ?_)
      exact jumpK [.kill [3, 40]] (w_m_logs_Check_k2 (l := l) hrec_m_logs_Check_l1 h)
  · replace h := retS h; subst h
    refine condFP (Wp.out (seqO (loopO (blockO (seqN (Wp.seq ?_))))))
    refine regP (seqN (Wp.ret ?_))
    exact finP
theorem w_m_logs_Check_l1 {l : TLog} {r : Int}   : ∀ (n : Nat) {term : Int} {v39 : Int}, m_logs_Check_l1  l n term v39 = some r → LWp Pg 55 0 i33_L0 ⟨[(0, .bad), (1, .bad), (2, .bad), (3, .int .i64 term), (5, .bad), (32, .bad), (37, sl TEntry.c l.Entries), (38, .int .i64 (l.Entries.length : Int)), (39, .int .i64 v39), (40, .bad), (51, .bad)], [], [], 0⟩ (blockQ 0 (seqQ Pg 55 0 (.seq (.reg none i33_R11) .ret) (qf_33 r))) := by
  intro n
  induction n with
  | zero => intro term v39 h; unfold m_logs_Check_l1 at h; cases h
  | succ n ih => intro term v39 h; unfold m_logs_Check_l1 at h; exact w_m_logs_Check_l1_B  ih h
theorem w_m_logs_Check_k1 {l : TLog} {v32 : Bool} {r : Int}   (h : m_logs_Check_k1 l v32 = some r) : Wp Pg 55 0 (.cond (.t 32) (.seq (.reg none i33_R2) .ret) .skip) ⟨[(0, .bad), (1, .ptr 0 0), (2, .bad), (3, .bad), (5, .bad), (32, .bool v32), (37, .bad), (38, .bad), (39, .bad), (40, .bad), (51, .bad)], [], [(0, .box [.int .i64 l.Base, .int .i64 l.BaseTerm, sl TEntry.c l.Entries])], 1⟩ (seqQ Pg 55 0 (.seq (.reg none i33_R3) (.seq (.seq (.reg none i33_R4) (.block 0 (.loop i33_L0))) (.seq (.reg none i33_R11) .ret))) (qf_33 r)) := by
  unfold m_logs_Check_k1 at h
  replace h := ifS h; rcases h with ⟨g5, h⟩ | ⟨g5, h⟩
  · replace h := retS h; subst h
    refine condTP (Wp.seq ?_)
    refine regP (seqN (Wp.ret (seqR ?_)))
    exact finP
  · refine condFP (Wp.skip (seqN (Wp.seq ?_)))
    refine regP (seqN (Wp.seq (Wp.seq ?_)))
    refine regP (seqN (Wp.block (Wp.loop ?_)))
    exact jumpL [.kill [1, 32], .tidy] (w_m_logs_Check_l1 _ h)
theorem w_m_logs_Check {l : TLog} {r : Int}   (h : m_logs_Check l = some r) : Spec Pg 33 [.agg [.int .i64 l.Base, .int .i64 l.BaseTerm, sl TEntry.c l.Entries]] [] 0 (.int .i64 r) [] 0 := by
  refine Spec.intro Go.Proofs.Try.func33 i33_ok (le_of_ble rfl) ?_
  show Wp Pg 55 0 i33_B ⟨argEnv [.agg [.int .i64 l.Base, .int .i64 l.BaseTerm, sl TEntry.c l.Entries]] i33_V, [], [], 0⟩ (qf_33 r)
  unfold m_logs_Check at h
  unfold i33_B
  refine weakP [] ?_
  refine Wp.seq (regP (seqN (Wp.seq (Wp.seq ?_))))
  replace h := ifS h; rcases h with ⟨g1, h⟩ | ⟨g1, h⟩
  · refine regP (seqN ?_)
    exact jumpK [.kill [0, 2, 3, 5, 37, 38, 39, 40, 51]] (w_m_logs_Check_k1 h)
  · replace h := ifS h; rcases h with ⟨g2, h⟩ | ⟨g2, h⟩
    · refine regP (seqN ?_)
      exact jumpK [.kill [0, 2, 3, 5, 37, 38, 39, 40, 51]] (w_m_logs_Check_k1 h)
    · replace h := ifS h; rcases h with ⟨g3, h⟩ | ⟨g3, h⟩
      · refine regP (seqN ?_)
        exact jumpK [.kill [0, 2, 3, 5, 37, 38, 39, 40, 51]] (w_m_logs_Check_k1 h)
      · replace h := ifS h; rcases h with ⟨g4, h⟩ | ⟨g4, h⟩
        · refine regP (seqN ?_)
          exact jumpK [.kill [0, 2, 3, 5, 37, 38, 39, 40, 51]] (w_m_logs_Check_k1 h)
        · refine regP (seqN ?_)
          exact jumpK [.kill [0, 2, 3, 5, 37, 38, 39, 40, 51]] (w_m_logs_Check_k1 h)
/-! funicular/logs.copied -/
noncomputable abbrev qf_60 (r : (List TEntry)) : Ex → St → Prop := FinQ 0 [.tmp 2] (sl TEntry.c r) [] 0
theorem w_m_logs_copied_l1_B {l : (List TEntry)} {r : (List TEntry)}   {rec_m_logs_copied_l1 : Int → (List TEntry) → Option (List TEntry)} (hrec_m_logs_copied_l1 : ∀ {v8 : Int} {out : (List TEntry)}, rec_m_logs_copied_l1 v8 out = some r → LWp Pg 23 0 i60_L0 ⟨[(0, .bad), (2, .bad), (3, .own 2 0 0 out.length false), (5, .bad), (6, sl TEntry.c l), (7, .int .i64 (l.length : Int)), (8, .int .i64 v8), (9, .bad)], [], [(0, .arr 2 (List.map TEntry.c out) 0)], 1⟩ (blockQ 0 (seqQ Pg 23 0 (.seq (.reg none i60_R7) .ret) (qf_60 r)))) {v8 : Int} {out : (List TEntry)} (h : m_logs_copied_l1_B  l rec_m_logs_copied_l1 v8 out = some r) : LWp Pg 23 0 i60_L0 ⟨[(0, .bad), (2, .bad), (3, .own 2 0 0 out.length false), (5, .bad), (6, sl TEntry.c l), (7, .int .i64 (l.length : Int)), (8, .int .i64 v8), (9, .bad)], [], [(0, .arr 2 (List.map TEntry.c out) 0)], 1⟩ (blockQ 0 (seqQ Pg 23 0 (.seq (.reg none i60_R7) .ret) (qf_60 r))) := by
  unfold m_logs_copied_l1_B at h
  refine LWp.stepC i60_L0.eq_1 ?_
  refine Wp.seq (regP (seqN (Wp.seq ?_)))
  replace h := ifS h; rcases h with ⟨g1, h⟩ | ⟨g1, h⟩
  · refine condTP (Wp.skip (seqN (Wp.seq (Wp.block (Wp.seq ?_)))))
    replace h := bndS h; obtain ⟨e, g2, h⟩ := h
    refine regP (seqN ?_)
    replace h := reqS h; obtain ⟨g3, h⟩ := h
    replace h := reqS h; obtain ⟨g4, h⟩ := h
    refine drawP [] mixed (clsN _) (blockN (seqN ?_))
    refine regP (loopN ?_)
    exact jumpL [.kill [5, 9], .tidy] (hrec_m_logs_copied_l1 h)
  · replace h := retS h; subst h
    refine condFP (Wp.out (seqO (loopO (blockO (seqN (Wp.seq ?_))))))
    refine regP (seqN ?_)
    refine weakP [.at 2 .frz] (Wp.ret ?_)
    exact finP
theorem w_m_logs_copied_l1 {l : (List TEntry)} {r : (List TEntry)}   : ∀ (n : Nat) {v8 : Int} {out : (List TEntry)}, m_logs_copied_l1  l n v8 out = some r → LWp Pg 23 0 i60_L0 ⟨[(0, .bad), (2, .bad), (3, .own 2 0 0 out.length false), (5, .bad), (6, sl TEntry.c l), (7, .int .i64 (l.length : Int)), (8, .int .i64 v8), (9, .bad)], [], [(0, .arr 2 (List.map TEntry.c out) 0)], 1⟩ (blockQ 0 (seqQ Pg 23 0 (.seq (.reg none i60_R7) .ret) (qf_60 r))) := by
  intro n
  induction n with
  | zero => intro v8 out h; unfold m_logs_copied_l1 at h; cases h
  | succ n ih => intro v8 out h; unfold m_logs_copied_l1 at h; exact w_m_logs_copied_l1_B  ih h
theorem w_m_logs_copied {l : (List TEntry)} {r : (List TEntry)}   (h : m_logs_copied l = some r) : Spec Pg 60 [sl TEntry.c l] [] 0 (sl TEntry.c r) [] 0 := by
  refine Spec.intro Go.Proofs.Try.func60 i60_ok (le_of_ble rfl) ?_
  show Wp Pg 23 0 i60_B ⟨argEnv [sl TEntry.c l] i60_V, [], [], 0⟩ (qf_60 r)
  unfold m_logs_copied at h
  unfold i60_B
  refine weakP [] ?_
  refine Wp.seq (regP (seqN (Wp.seq ?_)))
  refine regP (seqN (Wp.seq (Wp.seq ?_)))
  refine regP (seqN (Wp.block (Wp.loop ?_)))
  exact jumpL [.kill [0, 2, 5, 9], .at 3 (.virt 2)] (w_m_logs_copied_l1 _ h)
/-! funicular/logs.Copy -/
noncomputable abbrev qf_34 (r : TLog) : Ex → St → Prop := FinQ 0 [.cell 2 true 3] (.agg [.int .i64 r.Base, .int .i64 r.BaseTerm, sl TEntry.c r.Entries]) [] 0
theorem w_m_logs_Copy {l : TLog} {r : TLog}   (h : m_logs_Copy l = some r) : Spec Pg 34 [.agg [.int .i64 l.Base, .int .i64 l.BaseTerm, sl TEntry.c l.Entries]] [] 0 (.agg [.int .i64 r.Base, .int .i64 r.BaseTerm, sl TEntry.c r.Entries]) [] 0 := by
  refine Spec.intro Go.Proofs.Try.func34 i34_ok (le_of_ble rfl) ?_
  show Wp Pg 11 0 i34_B ⟨argEnv [.agg [.int .i64 l.Base, .int .i64 l.BaseTerm, sl TEntry.c l.Entries]] i34_V, [], [], 0⟩ (qf_34 r)
  unfold m_logs_Copy at h
  unfold i34_B
  refine weakP [] ?_
  refine Wp.seq (regP (seqN (Wp.seq ?_)))
  replace h := bndS h; obtain ⟨r0, g1, h⟩ := h
  replace h := retS h; subst h
  refine drawP [] mixed (clsC 6 (tab_cons (w_m_logs_copied g1) (tab_nil _)) (clsN _)) (seqN (Wp.ret ?_))
  exact finP
/-! funicular/raft.Restart -/
noncomputable abbrev qf_13 (r : (TRaft × Int)) : Ex → St → Prop := FinQ 0 [.cell 12 true 16, .tmp 13] (.tup [.agg [.int .i64 r.1.Id, .int .i64 r.1.N, .int .i64 r.1.Term, .int .i64 r.1.Vote, .int .i64 r.1.Role, .int .i64 r.1.Lead, .int .i64 r.1.Log.Base, .int .i64 r.1.Log.BaseTerm, sl TEntry.c r.1.Log.Entries, .int .i64 r.1.Commit, sl (ci .u8) r.1.Snap, sl cb r.1.Granted, sl (ci .i64) r.1.Next, sl (ci .i64) r.1.Match, .int .i64 r.1.Clock, .int .i64 r.1.Wait], .int .i64 r.2]) [] 0
theorem w_m_raft_Restart_k1 {term : Int} {vote : Int} {l : TLog} {snap : (List Int)} {r0 : (TRaft × Int)} {v27 : Bool} {r : (TRaft × Int)}   (h : m_raft_Restart_k1 term vote l snap r0 v27 = some r) : Wp Pg 69 0 (.cond (.t 27) (.seq (.reg none i13_R5) .ret) .skip) ⟨[(0, .bad), (1, .bad), (2, .int .i64 term), (3, .int .i64 vote), (4, .bad), (5, sl (ci .u8) snap), (10, .ptr 0 0), (12, .ptr 1 0), (13, .bad), (14, .ptr 2 0), (15, .bad), (22, .bad), (27, .bool v27)], [], [(0, .box [.int .i64 l.Base, .int .i64 l.BaseTerm, sl TEntry.c l.Entries]), (1, .box [.int .i64 (0 : Int), .int .i64 (0 : Int), .int .i64 (0 : Int), .int .i64 (0 : Int), .int .i64 (0 : Int), .int .i64 (0 : Int), .int .i64 (0 : Int), .int .i64 (0 : Int), .nil, .int .i64 (0 : Int), .nil, .nil, .nil, .nil, .int .i64 (0 : Int), .int .i64 (0 : Int)]), (2, .box [.int .i64 r0.1.Id, .int .i64 r0.1.N, .int .i64 r0.1.Term, .int .i64 r0.1.Vote, .int .i64 r0.1.Role, .int .i64 r0.1.Lead, .int .i64 r0.1.Log.Base, .int .i64 r0.1.Log.BaseTerm, sl TEntry.c r0.1.Log.Entries, .int .i64 r0.1.Commit, sl (ci .u8) r0.1.Snap, sl cb r0.1.Granted, sl (ci .i64) r0.1.Next, sl (ci .i64) r0.1.Match, .int .i64 r0.1.Clock, .int .i64 r0.1.Wait])], 3⟩ (blockQ 0 (seqQ Pg 69 0 (.seq (.reg (some [(3, 5), (5, 7), (5, 9), (5, 11), (5, 13)]) i13_R6) (.seq (.reg none i13_R7) .ret)) (qf_13 r))) := by
  unfold m_raft_Restart_k1 at h
  replace h := ifS h; rcases h with ⟨g10, h⟩ | ⟨g10, h⟩
  · replace h := retS h; subst h
    refine condTP (Wp.seq ?_)
    refine regP (seqN ?_)
    refine weakP [.cell 12 8 .frz, .cell 12 10 .frz, .cell 12 11 .frz, .cell 12 12 .frz, .cell 12 13 .frz] (Wp.ret (blockR (seqR ?_)))
    exact finP
  · refine condFP (Wp.skip (blockN (seqN (Wp.seq ?_))))
    replace h := bndS h; obtain ⟨r0_3, g11, h⟩ := h
    replace h := reqS h; obtain ⟨g12, h⟩ := h
    replace h := retS h; subst h
    refine drawP [] mixed (clsC 3 (tab_cons (w_m_logs_Copy g11) (tab_nil _)) (clsN _)) (seqN (Wp.seq ?_))
    refine regP (seqN ?_)
    refine weakP [.cell 12 10 .frz] (Wp.ret ?_)
    exact finP
theorem w_m_raft_Restart {id : Int} {n0 : Int} {term : Int} {vote : Int} {l : TLog} {snap : (List Int)} {r : (TRaft × Int)}   (h : m_raft_Restart id n0 term vote l snap = some r) : Spec Pg 13 [.int .i64 id, .int .i64 n0, .int .i64 term, .int .i64 vote, .agg [.int .i64 l.Base, .int .i64 l.BaseTerm, sl TEntry.c l.Entries], sl (ci .u8) snap] [] 0 (.tup [.agg [.int .i64 r.1.Id, .int .i64 r.1.N, .int .i64 r.1.Term, .int .i64 r.1.Vote, .int .i64 r.1.Role, .int .i64 r.1.Lead, .int .i64 r.1.Log.Base, .int .i64 r.1.Log.BaseTerm, sl TEntry.c r.1.Log.Entries, .int .i64 r.1.Commit, sl (ci .u8) r.1.Snap, sl cb r.1.Granted, sl (ci .i64) r.1.Next, sl (ci .i64) r.1.Match, .int .i64 r.1.Clock, .int .i64 r.1.Wait], .int .i64 r.2]) [] 0 := by
  refine Spec.intro Go.Proofs.Try.func13 i13_ok (le_of_ble rfl) ?_
  show Wp Pg 69 0 i13_B ⟨argEnv [.int .i64 id, .int .i64 n0, .int .i64 term, .int .i64 vote, .agg [.int .i64 l.Base, .int .i64 l.BaseTerm, sl TEntry.c l.Entries], sl (ci .u8) snap] i13_V, [], [], 0⟩ (qf_13 r)
  unfold m_raft_Restart at h
  unfold i13_B
  refine weakP [] ?_
  refine Wp.seq (regP (seqN (Wp.seq (Wp.reg ?_))))
  replace h := bndS h; obtain ⟨r0, g1, h⟩ := h
  refine chunkT 3 (tab_cons (w_m_raft_New g1) (tab_nil _)) ?_
  refine lastT (tab_nil _) (seqN (Wp.seq (Wp.block (Wp.seq ?_))))
  refine regP (seqN ?_)
  replace h := ifS h; rcases h with ⟨g2, h⟩ | ⟨g2, h⟩
  · replace h := retS h; subst h
    refine condTP (Wp.seq ?_)
    refine regP (seqN ?_)
    refine weakP [.cell 12 8 .frz, .cell 12 10 .frz, .cell 12 11 .frz, .cell 12 12 .frz, .cell 12 13 .frz] (Wp.ret (blockR (seqR ?_)))
    exact finP
  · refine condFP (Wp.seq (Wp.reg ?_))
    replace h := ifS h; rcases h with ⟨g3, h⟩ | ⟨g3, h⟩
    · refine lastT (tab_nil _) (seqN ?_)
      exact jumpK [.kill [0, 1, 4, 13, 15, 22], .tidy] (w_m_raft_Restart_k1 h)
    · replace h := ifS h; rcases h with ⟨g4, h⟩ | ⟨g4, h⟩
      · refine lastT (tab_nil _) (seqN ?_)
        exact jumpK [.kill [0, 1, 4, 13, 15, 22], .tidy] (w_m_raft_Restart_k1 h)
      · replace h := ifS h; rcases h with ⟨g5, h⟩ | ⟨g5, h⟩
        · refine lastT (tab_nil _) (seqN ?_)
          exact jumpK [.kill [0, 1, 4, 13, 15, 22], .tidy] (w_m_raft_Restart_k1 h)
        · replace h := ifS h; rcases h with ⟨g6, h⟩ | ⟨g6, h⟩
          · refine lastT (tab_nil _) (seqN ?_)
            exact jumpK [.kill [0, 1, 4, 13, 15, 22], .tidy] (w_m_raft_Restart_k1 h)
          · replace h := bndS h; obtain ⟨r0_1, g7, h⟩ := h
            refine chunkT 18 (tab_cons (w_m_logs_LastTerm g7) (tab_nil _)) ?_
            replace h := ifS h; rcases h with ⟨g8, h⟩ | ⟨g8, h⟩
            · refine lastT (tab_nil _) (seqN ?_)
              exact jumpK [.kill [0, 1, 4, 13, 15, 22], .tidy] (w_m_raft_Restart_k1 h)
            · replace h := bndS h; obtain ⟨r0_2, g9, h⟩ := h
              refine chunkT 6 (tab_cons (w_m_logs_Check g9) (tab_nil _)) ?_
              refine lastT (tab_nil _) (seqN ?_)
              exact jumpK [.kill [0, 1, 4, 13, 15, 22], .tidy] (w_m_raft_Restart_k1 h)
end Go.Proofs.Ytgoachcogmlhcaa.R
