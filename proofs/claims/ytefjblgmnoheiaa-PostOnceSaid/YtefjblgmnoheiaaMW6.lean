/- The program's functions answer what the models answer: 6. -/
import Derived.Test.YtefjblgmnoheiaaMW0
import Derived.Test.YtefjblgmnoheiaaMW1
import Derived.Test.YtefjblgmnoheiaaMW3
import Derived.Test.YtefjblgmnoheiaaMW5
set_option maxRecDepth 100000
set_option maxHeartbeats 1600000
set_option linter.unusedVariables false
set_option linter.unusedSimpArgs false
set_option linter.defProp false
noncomputable section
namespace Go.Proofs.Ytefjblgmnoheiaa.R
open Go Nat
/-! (funicular/funicularlaw22.Op).Sub -/
noncomputable abbrev qf_20 (r : TSub) : Ex → St → Prop := FinQ 0 [.cell 2 true 6] (.agg [.int .i64 r.Part, .int .i64 r.Id, .int .i64 r.Inst, .str r.Name, .int .i64 r.Key, .int .i64 r.Mail]) [] 0
theorem w_m_law22_Op_Sub {o : TOp} {r : TSub}   (h : m_law22_Op_Sub o = some r) : Spec Pg 20 [.agg [.int .i64 o.Kind, .str o.Name, .int .i64 o.Key, sl cs o.Vars.Names, sl (ci .i64) o.Vars.Vals, .int .i64 o.Now, .int .i64 o.Keep, .int .i64 o.Part, .int .i64 o.Id, .int .i64 o.Inst]] [] 0 (.agg [.int .i64 r.Part, .int .i64 r.Id, .int .i64 r.Inst, .str r.Name, .int .i64 r.Key, .int .i64 r.Mail]) [] 0 := by
  refine Spec.intro Try.func20 i20_ok (le_of_ble rfl) ?_
  show Wp Pg 14 0 i20_B ⟨argEnv _ i20_V, [], _, _⟩ (qf_20 r)
  unfold m_law22_Op_Sub at h
  unfold i20_B
  refine weakP [] ?_
  replace h := retS h; subst h
  refine Wp.seq (regP (seqN (Wp.seq ?_)))
  refine regP (seqN (Wp.ret ?_))
  exact finP
/-! funicular/funicularref22.Find -/
noncomputable abbrev qf_32 (r : Int) : Ex → St → Prop := FinQ 0 [.tmp 6] (.int .i64 r) [] 0
noncomputable abbrev H_m_ref22_Find_l1 (p : TPost) (part id : Int) (rec0 : Int → Option Int) (r : Int) : Prop := ∀ {i : Int}, rec0 i = some r → LWp Pg 34 0 i32_L0 ⟨[(0, .bad), (1, .int .i64 part), (2, .int .i64 id), (3, .ptr 0 0), (6, .bad), (7, .int .i64 i), (12, .bad), (32, .bad)], [], [(0, .box [.int .i64 p.Next, sl TMail.c p.Mails, sl TSub.c p.Subs])], 1⟩ (blockQ 0 (seqQ Pg 34 0 (.seq (.reg none i32_R6) .ret) (qf_32 r)))
theorem w_m_ref22_Find_k1 {p : TPost} {part id i : Int} {v32 : Bool} {r : Int} {rec_m_ref22_Find_l1 : Int → Option Int} (hrec_m_ref22_Find_l1 : H_m_ref22_Find_l1 p part id rec_m_ref22_Find_l1 r) (h : m_ref22_Find_k1 rec_m_ref22_Find_l1 i v32 = some r) : Wp Pg 34 0 (.cond (.t 32) (.seq (.reg none i32_R4) .ret) .skip) ⟨[(0, .bad), (1, .int .i64 part), (2, .int .i64 id), (3, .ptr 0 0), (6, .bad), (7, .int .i64 i), (12, .bad), (32, .bool v32)], [], [(0, .box [.int .i64 p.Next, sl TMail.c p.Mails, sl TSub.c p.Subs])], 1⟩ (blockQ 1 (seqQ Pg 34 0 (.reg none i32_R5) (loopQ Pg 34 0 i32_L0 (blockQ 0 (seqQ Pg 34 0 (.seq (.reg none i32_R6) .ret) (qf_32 r)))))) := by
  unfold m_ref22_Find_k1 at h
  replace h := ifS h; rcases h with ⟨g4, h⟩ | ⟨g4, h⟩
  · replace h := retS h; subst h
    refine condTP (Wp.seq ?_)
    refine regP (seqN (Wp.ret (blockR (seqR (loopR (blockR (seqR ?_)))))))
    exact finP
  · refine condFP (Wp.skip (blockN (seqN ?_)))
    refine regP (loopN ?_)
    exact jumpL [.kill [32]] (hrec_m_ref22_Find_l1 h)
theorem w_m_ref22_Find_l1_B {p : TPost} {part id : Int} {r : Int}   {rec_m_ref22_Find_l1 : Int → Option Int} (hrec_m_ref22_Find_l1 : H_m_ref22_Find_l1 p part id rec_m_ref22_Find_l1 r) {i : Int} (h : m_ref22_Find_l1_B  p part id rec_m_ref22_Find_l1 i = some r) : LWp Pg 34 0 i32_L0 ⟨[(0, .bad), (1, .int .i64 part), (2, .int .i64 id), (3, .ptr 0 0), (6, .bad), (7, .int .i64 i), (12, .bad), (32, .bad)], [], [(0, .box [.int .i64 p.Next, sl TMail.c p.Mails, sl TSub.c p.Subs])], 1⟩ (blockQ 0 (seqQ Pg 34 0 (.seq (.reg none i32_R6) .ret) (qf_32 r))) := by
  unfold m_ref22_Find_l1_B at h
  refine LWp.stepC i32_L0.eq_1 ?_
  refine Wp.seq (Wp.seq (regP (seqN ?_)))
  replace h := ifS h; rcases h with ⟨g1, h⟩ | ⟨g1, h⟩
  · refine condTP (Wp.skip (seqN (Wp.seq (Wp.block (Wp.seq ?_)))))
    replace h := bndS h; obtain ⟨e, g2, h⟩ := h
    replace h := ifS h; rcases h with ⟨g3, h⟩ | ⟨g3, h⟩
    · refine regP (seqN ?_)
      exact jumpK [.kill [12]] (w_m_ref22_Find_k1 (p := p) (part := part) (id := id) hrec_m_ref22_Find_l1 h)
    · refine regP (seqN ?_)
      exact jumpK [.kill [12]] (w_m_ref22_Find_k1 (p := p) (part := part) (id := id) hrec_m_ref22_Find_l1 h)
  · replace h := retS h; subst h
    refine condFP (Wp.out (seqO (loopO (blockO (seqN (Wp.seq ?_))))))
    refine regP (seqN (Wp.ret ?_))
    exact finP
theorem w_m_ref22_Find_l1 {p : TPost} {part id : Int} {r : Int}   : ∀ (n : Nat), H_m_ref22_Find_l1 p part id (m_ref22_Find_l1  p part id n) r := by
  intro n
  induction n with
  | zero => intro i h; unfold m_ref22_Find_l1 at h; cases h
  | succ n ih => intro i h; unfold m_ref22_Find_l1 at h; exact w_m_ref22_Find_l1_B  ih h
theorem w_m_ref22_Find {p : TPost} {part : Int} {id : Int} {r : Int}   (h : m_ref22_Find p part id = some r) : Spec Pg 32 [.agg [.int .i64 p.Next, sl TMail.c p.Mails, sl TSub.c p.Subs], .int .i64 part, .int .i64 id] [] 0 (.int .i64 r) [] 0 := by
  refine Spec.intro Try.func32 i32_ok (le_of_ble rfl) ?_
  show Wp Pg 34 0 i32_B ⟨argEnv _ i32_V, [], _, _⟩ (qf_32 r)
  unfold m_ref22_Find at h
  unfold i32_B
  refine weakP [] ?_
  refine Wp.seq (regP (seqN (Wp.seq (Wp.seq ?_))))
  refine regP (seqN (Wp.block (Wp.loop ?_)))
  exact jumpL [.kill [0, 6, 12, 32]] (w_m_ref22_Find_l1 _ h)
/-! funicular/funicularref22.Open -/
/-! funicular/post.Close -/
noncomputable abbrev qf_22 (r : (TPost × Int)) : Ex → St → Prop := FinQ 0 [.cell 6 true 3, .tmp 7] (.tup [.agg [.int .i64 r.1.Next, sl TMail.c r.1.Mails, sl TSub.c r.1.Subs], .int .i64 r.2]) [] 0
theorem w_m_post_Close {p : TPost} {part : Int} {id : Int} {r : (TPost × Int)}   (h : m_post_Close p part id = some r) : Spec Pg 22 [.agg [.int .i64 p.Next, sl TMail.c p.Mails, sl TSub.c p.Subs], .int .i64 part, .int .i64 id] [] 0 (.tup [.agg [.int .i64 r.1.Next, sl TMail.c r.1.Mails, sl TSub.c r.1.Subs], .int .i64 r.2]) [] 0 := by
  refine Spec.intro Try.func22 i22_ok (le_of_ble rfl) ?_
  show Wp Pg 32 0 i22_B ⟨argEnv _ i22_V, [], _, _⟩ (qf_22 r)
  unfold m_post_Close at h
  unfold i22_B
  refine weakP [] ?_
  refine Wp.seq (regP (seqN (Wp.seq (Wp.reg ?_))))
  replace h := bndS h; obtain ⟨r0, g1, h⟩ := h
  refine chunkT 5 (tab_cons (w_m_post_find g1) (tab_nil _)) ?_
  refine lastT (tab_nil _) (seqN (Wp.seq (Wp.seq ?_)))
  refine regP (seqN ?_)
  replace h := ifS h; rcases h with ⟨g2, h⟩ | ⟨g2, h⟩
  · refine condFP (Wp.skip (seqN (Wp.seq (Wp.reg ?_))))
    replace h := bndS h; obtain ⟨r0_1, g3, h⟩ := h
    refine chunkF 2 (tab_cons (w_m_post_Copy g3) (tab_nil _)) ?_
    refine lastT (tab_nil _) (seqN (Wp.seq (Wp.reg ?_)))
    replace h := reqS h; obtain ⟨g4, h⟩ := h
    replace h := reqS h; obtain ⟨g5, h⟩ := h
    replace h := reqS h; obtain ⟨g6, h⟩ := h
    replace h := reqS h; obtain ⟨g7, h⟩ := h
    replace h := retS h; subst h
    refine chunkF 6 (tab_cons (w_del delOk (f := 67) (es := 6) rfl (c := TSub.c) (l := r0_1.Subs) (i := r0.1) (j := (IntKind.i64.wrap (r0.1 + (1 : Int)))) g4 g5 g6 g7 false) (tab_nil _)) ?_
    refine lastT (tab_nil _) (seqN (Wp.seq ?_))
    refine regP (seqN ?_)
    refine weakP [.cell 6 1 .frz, .cell 6 2 .frz] (Wp.ret ?_)
    exact finP
  · replace h := retS h; subst h
    refine condTP (Wp.seq ?_)
    refine regP (seqN ?_)
    refine weakP [.cell 6 1 .frz, .cell 6 2 .frz] (Wp.ret (seqR ?_))
    exact finP
/-! funicular/funicularref22.Close -/
/-! funicular/post.Expire -/
noncomputable abbrev qf_24 (r : TPost) : Ex → St → Prop := FinQ 0 [.cell 4 true 3] (.agg [.int .i64 r.Next, sl TMail.c r.Mails, sl TSub.c r.Subs]) [] 0
theorem w_m_post_Expire {p : TPost} {now : Int} {r : TPost}   (h : m_post_Expire p now = some r) : Spec Pg 24 [.agg [.int .i64 p.Next, sl TMail.c p.Mails, sl TSub.c p.Subs], .int .i64 now] [] 0 (.agg [.int .i64 r.Next, sl TMail.c r.Mails, sl TSub.c r.Subs]) [] 0 := by
  refine Spec.intro Try.func24 i24_ok (le_of_ble rfl) ?_
  show Wp Pg 14 0 i24_B ⟨argEnv _ i24_V, [], _, _⟩ (qf_24 r)
  unfold m_post_Expire at h
  unfold i24_B
  refine weakP [] ?_
  refine Wp.seq (regP (seqN (Wp.seq (Wp.reg ?_))))
  replace h := bndS h; obtain ⟨r0, g1, h⟩ := h
  refine chunkF 2 (tab_cons (w_m_post_Copy g1) (tab_nil _)) ?_
  refine lastT (tab_nil _) (seqN (Wp.seq (Wp.reg ?_)))
  replace h := bndS h; obtain ⟨r0_1, g2, h⟩ := h
  replace h := retS h; subst h
  refine chunkF 4 (tab_cons (w_m_slices_DeleteFunc_api_Mail_api_Mail g2) (tab_nil _)) ?_
  refine lastT (tab_nil _) (seqN (Wp.seq ?_))
  refine regP (seqN ?_)
  refine weakP [.cell 4 1 .frz, .cell 4 2 .frz] (Wp.ret ?_)
  exact finP
/-! funicular/funicularref22.Expire -/
end Go.Proofs.Ytefjblgmnoheiaa.R
