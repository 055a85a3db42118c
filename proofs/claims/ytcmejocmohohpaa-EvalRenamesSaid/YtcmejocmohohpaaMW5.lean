/- The program's functions answer what the models answer: 5. -/
import Derived.Test.YtcmejocmohohpaaMW0
import Derived.Test.YtcmejocmohohpaaMW4
set_option maxRecDepth 100000
set_option linter.unusedVariables false
set_option linter.unusedSimpArgs false
noncomputable section
namespace Go.Proofs.Ytcmejocmohohpaa.R
open Go Nat
/-! funicular/funicularref08.typed -/
/-! funicular/funicularref08.Truth -/
/-! funicular/funicularref09.Get -/
noncomputable abbrev qf_22 (r : (Int × Bool)) : Ex → St → Prop := FinQ 0 [.tmp 4, .tmp 5] (.tup [.int .i64 r.1, .bool r.2]) [] 0
theorem w_m_ref09_Get_l1_B {v : TVars} {name : ByteArray} {r : (Int × Bool)}   {rec_m_ref09_Get_l1 : Int → Option (Int × Bool)} (hrec_m_ref09_Get_l1 : ∀ {i : Int}, rec_m_ref09_Get_l1 i = some r → LWp Pg 26 0 i22_L0 ⟨[(0, .bad), (1, .str name), (2, .ptr 0 0), (4, .bad), (5, .bad), (6, .int .i64 i), (11, .bad), (20, .bad)], [], [(0, .box [sl cs v.Names, sl (ci .i64) v.Vals])], 1⟩ (blockQ 0 (seqQ Pg 26 0 (.seq (.reg none i22_R6) .ret) (qf_22 r)))) {i : Int} (h : m_ref09_Get_l1_B  v name rec_m_ref09_Get_l1 i = some r) : LWp Pg 26 0 i22_L0 ⟨[(0, .bad), (1, .str name), (2, .ptr 0 0), (4, .bad), (5, .bad), (6, .int .i64 i), (11, .bad), (20, .bad)], [], [(0, .box [sl cs v.Names, sl (ci .i64) v.Vals])], 1⟩ (blockQ 0 (seqQ Pg 26 0 (.seq (.reg none i22_R6) .ret) (qf_22 r))) := by
  unfold m_ref09_Get_l1_B at h
  refine LWp.stepC i22_L0.eq_1 ?_
  refine Wp.seq (Wp.seq (regP (seqN ?_)))
  replace h := ifS h; rcases h with ⟨g1, h⟩ | ⟨g1, h⟩
  · refine condTP (Wp.skip (seqN (Wp.seq (Wp.block (Wp.seq ?_)))))
    replace h := bndS h; obtain ⟨e, g2, h⟩ := h
    refine regP (seqN ?_)
    replace h := ifS h; rcases h with ⟨g3, h⟩ | ⟨g3, h⟩
    · refine condTP (Wp.seq ?_)
      replace h := bndS h; obtain ⟨e_1, g4, h⟩ := h
      replace h := retS h; subst h
      refine regP (seqN (Wp.ret (blockR (seqR (loopR (blockR (seqR ?_)))))))
      exact finP
    · refine condFP (Wp.skip (blockN (seqN ?_)))
      refine regP (loopN ?_)
      exact jumpL [.kill [11, 20]] (hrec_m_ref09_Get_l1 h)
  · replace h := retS h; subst h
    refine condFP (Wp.out (seqO (loopO (blockO (seqN (Wp.seq ?_))))))
    refine regP (seqN (Wp.ret ?_))
    exact finP
theorem w_m_ref09_Get_l1 {v : TVars} {name : ByteArray} {r : (Int × Bool)}   : ∀ (n : Nat) {i : Int}, m_ref09_Get_l1  v name n i = some r → LWp Pg 26 0 i22_L0 ⟨[(0, .bad), (1, .str name), (2, .ptr 0 0), (4, .bad), (5, .bad), (6, .int .i64 i), (11, .bad), (20, .bad)], [], [(0, .box [sl cs v.Names, sl (ci .i64) v.Vals])], 1⟩ (blockQ 0 (seqQ Pg 26 0 (.seq (.reg none i22_R6) .ret) (qf_22 r))) := by
  intro n
  induction n with
  | zero => intro i h; unfold m_ref09_Get_l1 at h; cases h
  | succ n ih => intro i h; unfold m_ref09_Get_l1 at h; exact w_m_ref09_Get_l1_B  ih h
theorem w_m_ref09_Get {v : TVars} {name : ByteArray} {r : (Int × Bool)}   (h : m_ref09_Get v name = some r) : Spec Pg 22 [.agg [sl cs v.Names, sl (ci .i64) v.Vals], .str name] [] 0 (.tup [.int .i64 r.1, .bool r.2]) [] 0 := by
  refine Spec.intro Go.Proofs.Try.func22 i22_ok (le_of_ble rfl) ?_
  show Wp Pg 26 0 i22_B ⟨argEnv [.agg [sl cs v.Names, sl (ci .i64) v.Vals], .str name] i22_V, [], [], 0⟩ (qf_22 r)
  unfold m_ref09_Get at h
  unfold i22_B
  refine weakP [] ?_
  refine Wp.seq (regP (seqN (Wp.seq (Wp.seq ?_))))
  refine regP (seqN (Wp.block (Wp.loop ?_)))
  exact jumpL [.kill [0, 4, 5, 11, 20]] (w_m_ref09_Get_l1 _ h)
/-! funicular/funicularref10.truth -/
/-! funicular/funicularref10.big -/
/-! funicular/funicularref10.carry -/
/-! funicular/funicularref10.less -/
/-! funicular/funicularref10.sum -/
end Go.Proofs.Ytcmejocmohohpaa.R
