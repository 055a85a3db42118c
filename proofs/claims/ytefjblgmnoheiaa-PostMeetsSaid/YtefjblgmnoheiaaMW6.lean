/- The program's functions answer what the models answer: 6. -/
import Derived.Test.YtefjblgmnoheiaaMW0
import Derived.Test.YtefjblgmnoheiaaMW1
import Derived.Test.YtefjblgmnoheiaaMW3
import Derived.Test.YtefjblgmnoheiaaMW5
set_option maxRecDepth 100000
set_option maxHeartbeats 1600000
set_option linter.unusedVariables false
set_option linter.unusedSimpArgs false
set_option linter.defProp false
noncomputable section
namespace Go.Proofs.Ytefjblgmnoheiaa.R
open Go Nat
/-! (funicular/funicularlaw22.Op).Sub -/
noncomputable abbrev qf_20 (r : TSub) : Ex → St → Prop := FinQ 0 [.cell 2 true 6] (.agg [.int .i64 r.Part, .int .i64 r.Id, .int .i64 r.Inst, .str r.Name, .int .i64 r.Key, .int .i64 r.Mail]) [] 0
theorem w_m_law22_Op_Sub {o : TOp} {r : TSub}   (h : m_law22_Op_Sub o = some r) : Spec Pg 20 [.agg [.int .i64 o.Kind, .str o.Name, .int .i64 o.Key, sl cs o.Vars.Names, sl (ci .i64) o.Vars.Vals, .int .i64 o.Now, .int .i64 o.Keep, .int .i64 o.Part, .int .i64 o.Id, .int .i64 o.Inst]] [] 0 (.agg [.int .i64 r.Part, .int .i64 r.Id, .int .i64 r.Inst, .str r.Name, .int .i64 r.Key, .int .i64 r.Mail]) [] 0 := by
  refine Spec.intro Try.func20 i20_ok (le_of_ble rfl) ?_
  show Wp Pg 14 0 i20_B ⟨argEnv _ i20_V, [], _, _⟩ (qf_20 r)
  unfold m_law22_Op_Sub at h
  unfold i20_B
  refine weakP [] ?_
  replace h := retS h; subst h
  refine Wp.seq (regP (seqN (Wp.seq ?_)))
  refine regP (seqN (Wp.ret ?_))
  exact finP
/-! funicular/funicularref22.Find -/
/-! funicular/funicularref22.Open -/
/-! funicular/post.Close -/
noncomputable abbrev qf_22 (r : (TPost × Int)) : Ex → St → Prop := FinQ 0 [.cell 6 true 3, .tmp 7] (.tup [.agg [.int .i64 r.1.Next, sl TMail.c r.1.Mails, sl TSub.c r.1.Subs], .int .i64 r.2]) [] 0
theorem w_m_post_Close {p : TPost} {part : Int} {id : Int} {r : (TPost × Int)}   (h : m_post_Close p part id = some r) : Spec Pg 22 [.agg [.int .i64 p.Next, sl TMail.c p.Mails, sl TSub.c p.Subs], .int .i64 part, .int .i64 id] [] 0 (.tup [.agg [.int .i64 r.1.Next, sl TMail.c r.1.Mails, sl TSub.c r.1.Subs], .int .i64 r.2]) [] 0 := by
  refine Spec.intro Try.func22 i22_ok (le_of_ble rfl) ?_
  show Wp Pg 32 0 i22_B ⟨argEnv _ i22_V, [], _, _⟩ (qf_22 r)
  unfold m_post_Close at h
  unfold i22_B
  refine weakP [] ?_
  refine Wp.seq (regP (seqN (Wp.seq (Wp.reg ?_))))
  replace h := bndS h; obtain ⟨r0, g1, h⟩ := h
  refine chunkT 5 (tab_cons (w_m_post_find g1) (tab_nil _)) ?_
  refine lastT (tab_nil _) (seqN (Wp.seq (Wp.seq ?_)))
  refine regP (seqN ?_)
  replace h := ifS h; rcases h with ⟨g2, h⟩ | ⟨g2, h⟩
  · refine condFP (Wp.skip (seqN (Wp.seq (Wp.reg ?_))))
    replace h := bndS h; obtain ⟨r0_1, g3, h⟩ := h
    refine chunkF 2 (tab_cons (w_m_post_Copy g3) (tab_nil _)) ?_
    refine lastT (tab_nil _) (seqN (Wp.seq (Wp.reg ?_)))
    replace h := reqS h; obtain ⟨g4, h⟩ := h
    replace h := reqS h; obtain ⟨g5, h⟩ := h
    replace h := reqS h; obtain ⟨g6, h⟩ := h
    replace h := reqS h; obtain ⟨g7, h⟩ := h
    replace h := retS h; subst h
    refine chunkF 6 (tab_cons (w_del delOk (f := 67) (es := 6) rfl (c := TSub.c) (l := r0_1.Subs) (i := r0.1) (j := (IntKind.i64.wrap (r0.1 + (1 : Int)))) g4 g5 g6 g7 false) (tab_nil _)) ?_
    refine lastT (tab_nil _) (seqN (Wp.seq ?_))
    refine regP (seqN ?_)
    refine weakP [.cell 6 1 .frz, .cell 6 2 .frz] (Wp.ret ?_)
    exact finP
  · replace h := retS h; subst h
    refine condTP (Wp.seq ?_)
    refine regP (seqN ?_)
    refine weakP [.cell 6 1 .frz, .cell 6 2 .frz] (Wp.ret (seqR ?_))
    exact finP
/-! funicular/funicularref22.Close -/
/-! funicular/post.Expire -/
noncomputable abbrev qf_24 (r : TPost) : Ex → St → Prop := FinQ 0 [.cell 4 true 3] (.agg [.int .i64 r.Next, sl TMail.c r.Mails, sl TSub.c r.Subs]) [] 0
theorem w_m_post_Expire {p : TPost} {now : Int} {r : TPost}   (h : m_post_Expire p now = some r) : Spec Pg 24 [.agg [.int .i64 p.Next, sl TMail.c p.Mails, sl TSub.c p.Subs], .int .i64 now] [] 0 (.agg [.int .i64 r.Next, sl TMail.c r.Mails, sl TSub.c r.Subs]) [] 0 := by
  refine Spec.intro Try.func24 i24_ok (le_of_ble rfl) ?_
  show Wp Pg 14 0 i24_B ⟨argEnv _ i24_V, [], _, _⟩ (qf_24 r)
  unfold m_post_Expire at h
  unfold i24_B
  refine weakP [] ?_
  refine Wp.seq (regP (seqN (Wp.seq (Wp.reg ?_))))
  replace h := bndS h; obtain ⟨r0, g1, h⟩ := h
  refine chunkF 2 (tab_cons (w_m_post_Copy g1) (tab_nil _)) ?_
  refine lastT (tab_nil _) (seqN (Wp.seq (Wp.reg ?_)))
  replace h := bndS h; obtain ⟨r0_1, g2, h⟩ := h
  replace h := retS h; subst h
  refine chunkF 4 (tab_cons (w_m_slices_DeleteFunc_api_Mail_api_Mail g2) (tab_nil _)) ?_
  refine lastT (tab_nil _) (seqN (Wp.seq ?_))
  refine regP (seqN ?_)
  refine weakP [.cell 4 1 .frz, .cell 4 2 .frz] (Wp.ret ?_)
  exact finP
/-! funicular/funicularref22.Expire -/
end Go.Proofs.Ytefjblgmnoheiaa.R
