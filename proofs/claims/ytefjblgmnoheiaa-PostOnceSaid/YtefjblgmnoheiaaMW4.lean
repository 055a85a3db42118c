/- The program's functions answer what the models answer: 4. -/
import Derived.Test.YtefjblgmnoheiaaMW0
import Derived.Test.YtefjblgmnoheiaaMW2
import Derived.Test.YtefjblgmnoheiaaMW3
set_option maxRecDepth 100000
set_option maxHeartbeats 1600000
set_option linter.unusedVariables false
set_option linter.unusedSimpArgs false
set_option linter.defProp false
noncomputable section
namespace Go.Proofs.Ytefjblgmnoheiaa.R
open Go Nat
/-! funicular/funicularref22.sameMail -/
/-! funicular/funicularref22.Same -/
/-! funicular/funicularref22.Weight -/
/-! funicular/funicularlaw22.light -/
/-! funicular/funicularlaw22.may -/
/-! funicular/post.Publish$1 -/
noncomputable abbrev qf_54 (r : (TPost × Int × (List THit) × Int)) : Ex → St → Prop := FinQ 0 [.cell 2 true 3, .tmp 3, .tmp 4, .tmp 5] (.tup [.agg [.int .i64 r.1.Next, sl TMail.c r.1.Mails, sl TSub.c r.1.Subs], .int .i64 r.2.1, sl THit.c r.2.2.1, .int .i64 r.2.2.2]) [] 0
theorem w_m_post_Publish_1 {e : Int} {r : (TPost × Int × (List THit) × Int)}   (h : m_post_Publish_1 e = some r) : Spec Pg 54 [.int .i64 e] [] 0 (.tup [.agg [.int .i64 r.1.Next, sl TMail.c r.1.Mails, sl TSub.c r.1.Subs], .int .i64 r.2.1, sl THit.c r.2.2.1, .int .i64 r.2.2.2]) [] 0 := by
  refine Spec.intro Try.func54 i54_ok (le_of_ble rfl) ?_
  show Wp Pg 8 0 i54_B ⟨argEnv _ i54_V, [], _, _⟩ (qf_54 r)
  unfold m_post_Publish_1 at h
  unfold i54_B
  refine weakP [] ?_
  replace h := retS h; subst h
  refine Wp.seq (regP (seqN (Wp.seq ?_)))
  refine regP (seqN ?_)
  refine weakP [.cell 2 1 .frz, .cell 2 2 .frz, .at 4 .frz] (Wp.ret ?_)
  exact finP
/-! funicular/post.suits -/
noncomputable abbrev qf_57 (r : Bool) : Ex → St → Prop := FinQ 0 [.tmp 4] (.bool r) [] 0
theorem w_m_post_suits {m : TMail} {s : TSub} {r : Bool}   (h : m_post_suits m s = some r) : Spec Pg 57 [.agg [.int .i64 m.Id, .str m.Name, .int .i64 m.Key, sl cs m.Vars.Names, sl (ci .i64) m.Vars.Vals, .int .i64 m.Until, sl TWho.c m.Took], .agg [.int .i64 s.Part, .int .i64 s.Id, .int .i64 s.Inst, .str s.Name, .int .i64 s.Key, .int .i64 s.Mail]] [] 0 (.bool r) [] 0 := by
  refine Spec.intro Try.func57 i57_ok (le_of_ble rfl) ?_
  show Wp Pg 33 0 i57_B ⟨argEnv _ i57_V, [], _, _⟩ (qf_57 r)
  unfold m_post_suits at h
  unfold i57_B
  refine weakP [] ?_
  refine Wp.seq (regP (seqN (Wp.seq (Wp.reg ?_))))
  replace h := ifS h; rcases h with ⟨g1, h⟩ | ⟨g1, h⟩
  · replace h := ifS h; rcases h with ⟨g2, h⟩ | ⟨g2, h⟩
    · replace h := ifS h; rcases h with ⟨g3, h⟩ | ⟨g3, h⟩
      · replace h := bndS h; obtain ⟨r0, g4, h⟩ := h
        replace h := retS h; subst h
        refine chunkT 26 (tab_cons (w_m_slices_Contains_api_Who_api_Who g4) (tab_nil _)) ?_
        refine lastT (tab_nil _) (seqN (Wp.ret ?_))
        exact finP
      · replace h := retS h; subst h
        refine lastT (tab_nil _) (seqN (Wp.ret ?_))
        exact finP
    · replace h := retS h; subst h
      refine lastT (tab_nil _) (seqN (Wp.ret ?_))
      exact finP
  · replace h := retS h; subst h
    refine lastT (tab_nil _) (seqN (Wp.ret ?_))
    exact finP
end Go.Proofs.Ytefjblgmnoheiaa.R
