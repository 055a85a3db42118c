/- The program's functions answer what the models answer: 1. -/
import Derived.Test.YtgoachcogmlhcaaMW0
set_option maxRecDepth 100000
set_option maxHeartbeats 1600000
set_option linter.unusedVariables false
set_option linter.unusedSimpArgs false
set_option linter.defProp false
noncomputable section
namespace Go.Proofs.Ytgoachcogmlhcaa.R
open Go Nat
noncomputable abbrev qf_60_v0(r:(List TEntry)):Ex→St→Prop:=FinQ 0 [.tmp 2] (.own 2 0 0 r.length false) [(0,.arr 2 (List.map TEntry.c r) 0)] 1
noncomputable abbrev zlq(l:(List TEntry))(rec0:Int→(List TEntry)→Option (List TEntry))(r:(List TEntry)):Prop:=∀ {v8:Int} {out:(List TEntry)},rec0 v8 out=some r→LWp Pg 23 0 i60_L0 ⟨[(0,.bad),(2,.bad),(3,.own 2 0 0 out.length false),(5,.bad),(6,sl TEntry.c l),(7,.int .i64 (l.length:Int)),(8,.int .i64 v8),(9,.bad)],[],[(0,.arr 2 (List.map TEntry.c out) 0)],1⟩ (blockQ 0 (seqQ Pg 23 0 (.seq (.reg none i60_R7) .ret) (qf_60_v0 r)))
theorem zoj{l:(List TEntry)}{r:(List TEntry)} {zgn:Int→(List TEntry)→Option (List TEntry)}(zoa:zlq l zgn r){v8:Int}{out:(List TEntry)}(h:zfu l zgn v8 out=some r):LWp Pg 23 0 i60_L0 ⟨[(0,.bad),(2,.bad),(3,.own 2 0 0 out.length false),(5,.bad),(6,sl TEntry.c l),(7,.int .i64 (l.length:Int)),(8,.int .i64 v8),(9,.bad)],[],[(0,.arr 2 (List.map TEntry.c out) 0)],1⟩ (blockQ 0 (seqQ Pg 23 0 (.seq (.reg none i60_R7) .ret) (qf_60_v0 r))):=by
  unfold zfu at h
  refine LWp.stepC i60_L0.eq_1 ?_
  refine Wp.seq (regP (seqN (Wp.seq ?_)))
  replace h:=ifS h; rcases h with ⟨g1,h⟩ | ⟨g1,h⟩
  ·refine condTP (Wp.skip (seqN (Wp.seq (Wp.block (Wp.seq ?_)))))
   replace h:=bndS h; obtain ⟨e,g2,h⟩:=h
   refine regP (seqN ?_)
   replace h:=reqS h; obtain ⟨g3,h⟩:=h
   replace h:=reqS h; obtain ⟨g4,h⟩:=h
   refine drawP [] mixed (clsN _) (blockN (seqN ?_))
   refine regP (loopN ?_)
   exact jumpL [.kill [5,9],.tidy] (zoa h)
  ·replace h:=retS h; subst h
   refine condFP (Wp.out (seqO (loopO (blockO (seqN (Wp.seq ?_))))))
   refine regP (seqN (Wp.ret ?_))
   exact finW [.kill [3,6,7,8,9],.tidy]
theorem zph{l:(List TEntry)}{r:(List TEntry)}:∀ (n:Nat),zlq l (zdd l n) r:=by
  intro n
  induction n with
  | zero=>intro v8 out h; unfold zdd at h; cases h
  | succ n ih=>intro v8 out h; unfold zdd at h; exact zoj ih h
theorem zji{l:(List TEntry)}{r:(List TEntry)} (h:zfh l=some r):Spec Pg 60 [sl TEntry.c l] [] 0 (.own 2 0 0 r.length false) [(0,.arr 2 (List.map TEntry.c r) 0)] 1:=by
  refine Spec.intro Go.Proofs.Try.func60 i60_ok (le_of_ble rfl) ?_
  show Wp Pg 23 0 i60_B ⟨argEnv _ i60_V,[],_,_⟩ (qf_60_v0 r)
  unfold zfh at h
  unfold i60_B
  refine weakP [] ?_
  refine Wp.seq (regP (seqN (Wp.seq ?_)))
  refine regP (seqN (Wp.seq (Wp.seq ?_)))
  refine regP (seqN (Wp.block (Wp.loop ?_)))
  exact jumpL [.kill [0,2,5,9],.at 3 (.virt 2)] (zph _ h)
noncomputable abbrev qf_34_v0(r:TLog):Ex→St→Prop:=FinQ 0 [.cell 2 true 3] (.agg [.int .i64 r.Base,.int .i64 r.BaseTerm,.own 2 0 0 ((r.Entries).length) false]) [(0,.arr 2 (List.map TEntry.c r.Entries) 0)] 1
theorem zgi{l:TLog}{r:TLog} (h:zed l=some r):Spec Pg 34 [.agg [.int .i64 l.Base,.int .i64 l.BaseTerm,sl TEntry.c l.Entries]] [] 0 (.agg [.int .i64 r.Base,.int .i64 r.BaseTerm,.own 2 0 0 ((r.Entries).length) false]) [(0,.arr 2 (List.map TEntry.c r.Entries) 0)] 1:=by
  refine Spec.intro Go.Proofs.Try.func34 i34_ok (le_of_ble rfl) ?_
  show Wp Pg 11 0 i34_B ⟨argEnv _ i34_V,[],_,_⟩ (qf_34_v0 r)
  unfold zed at h
  unfold i34_B
  refine weakP [] ?_
  refine Wp.seq (regP (seqN (Wp.seq ?_)))
  replace h:=bndS h; obtain ⟨r0,g1,h⟩:=h
  replace h:=retS h; subst h
  refine drawP [60] mixed (clsC 6 (tab_cons (zji g1) (tab_nil _)) (clsN _)) (seqN (Wp.ret ?_))
  exact finW [.kill [0,1],.tidy]
noncomputable abbrev qf_31_v0(r:TRaft):Ex→St→Prop:=FinQ 0 [.cell 2 true 16] (.agg [.int .i64 r.Id,.int .i64 r.N,.int .i64 r.Term,.int .i64 r.Vote,.int .i64 r.Role,.int .i64 r.Lead,.int .i64 r.Log.Base,.int .i64 r.Log.BaseTerm,.own 2 0 0 ((r.Log.Entries).length) false,.int .i64 r.Commit,.own 1 1 0 ((r.Snap).length) false,.own 1 2 0 ((r.Granted).length) false,.own 1 3 0 ((r.Next).length) false,.own 1 4 0 ((r.Match).length) false,.int .i64 r.Clock,.int .i64 r.Wait]) [(0,.arr 2 (List.map TEntry.c r.Log.Entries) 0),(1,.arr 1 (List.map (ci .u8) r.Snap) 0),(2,.arr 1 (List.map cb r.Granted) 0),(3,.arr 1 (List.map (ci .i64) r.Next) 0),(4,.arr 1 (List.map (ci .i64) r.Match) 0)] 5
theorem zre{r0:TRaft}{r:TRaft} (h:zlo r0=some r):Spec Pg 31 [.agg [.int .i64 r0.Id,.int .i64 r0.N,.int .i64 r0.Term,.int .i64 r0.Vote,.int .i64 r0.Role,.int .i64 r0.Lead,.int .i64 r0.Log.Base,.int .i64 r0.Log.BaseTerm,sl TEntry.c r0.Log.Entries,.int .i64 r0.Commit,sl (ci .u8) r0.Snap,sl cb r0.Granted,sl (ci .i64) r0.Next,sl (ci .i64) r0.Match,.int .i64 r0.Clock,.int .i64 r0.Wait]] [] 0 (.agg [.int .i64 r.Id,.int .i64 r.N,.int .i64 r.Term,.int .i64 r.Vote,.int .i64 r.Role,.int .i64 r.Lead,.int .i64 r.Log.Base,.int .i64 r.Log.BaseTerm,.own 2 0 0 ((r.Log.Entries).length) false,.int .i64 r.Commit,.own 1 1 0 ((r.Snap).length) false,.own 1 2 0 ((r.Granted).length) false,.own 1 3 0 ((r.Next).length) false,.own 1 4 0 ((r.Match).length) false,.int .i64 r.Clock,.int .i64 r.Wait]) [(0,.arr 2 (List.map TEntry.c r.Log.Entries) 0),(1,.arr 1 (List.map (ci .u8) r.Snap) 0),(2,.arr 1 (List.map cb r.Granted) 0),(3,.arr 1 (List.map (ci .i64) r.Next) 0),(4,.arr 1 (List.map (ci .i64) r.Match) 0)] 5:=by
  refine Spec.intro Go.Proofs.Try.func31 i31_ok (le_of_ble rfl) ?_
  show Wp Pg 24 0 i31_B ⟨argEnv _ i31_V,[],_,_⟩ (qf_31_v0 r)
  unfold zlo at h
  unfold i31_B
  refine weakP [] ?_
  refine Wp.seq (regP (seqN (Wp.seq (Wp.reg ?_))))
  replace h:=bndS h; obtain ⟨r0_1,g1,h⟩:=h
  refine chunkF 3 (tab_cons (zgi g1) (tab_nil _)) ?_
  refine lastT (tab_nil _) (seqN (Wp.seq ?_))
  replace h:=reqS h; obtain ⟨g2,h⟩:=h
  replace h:=reqS h; obtain ⟨g3,h⟩:=h
  refine drawP [] mixed (clsN _) (seqN (Wp.seq ?_))
  replace h:=reqS h; obtain ⟨g4,h⟩:=h
  replace h:=reqS h; obtain ⟨g5,h⟩:=h
  replace h:=retS h; subst h
  refine drawP [] mixed (clsN _) (seqN (Wp.seq ?_))
  refine regP (seqN (Wp.ret ?_))
  exact finW [.kill [0,1],.tidy]
noncomputable abbrev qf_49_v0(r:Tmember):Ex→St→Prop:=FinQ 0 [.tmp 2] (.ptr 0 0) (hp15 r.Raft.Id r.Raft.N r.Raft.Term r.Raft.Vote r.Raft.Role r.Raft.Lead r.Raft.Log.Base r.Raft.Log.BaseTerm r.Raft.Log.Entries r.Raft.Commit r.Raft.Snap r.Raft.Granted r.Raft.Next r.Raft.Match r.Raft.Clock r.Raft.Wait r.f_out) 7
theorem zlp{r0:TRaft}{r:Tmember} (h:zir r0=some r):Spec Pg 49 [.agg [.int .i64 r0.Id,.int .i64 r0.N,.int .i64 r0.Term,.int .i64 r0.Vote,.int .i64 r0.Role,.int .i64 r0.Lead,.int .i64 r0.Log.Base,.int .i64 r0.Log.BaseTerm,sl TEntry.c r0.Log.Entries,.int .i64 r0.Commit,sl (ci .u8) r0.Snap,sl cb r0.Granted,sl (ci .i64) r0.Next,sl (ci .i64) r0.Match,.int .i64 r0.Clock,.int .i64 r0.Wait]] [] 0 (.ptr 0 0) (hp15 r.Raft.Id r.Raft.N r.Raft.Term r.Raft.Vote r.Raft.Role r.Raft.Lead r.Raft.Log.Base r.Raft.Log.BaseTerm r.Raft.Log.Entries r.Raft.Commit r.Raft.Snap r.Raft.Granted r.Raft.Next r.Raft.Match r.Raft.Clock r.Raft.Wait r.f_out) 7:=by
  refine Spec.intro Go.Proofs.Try.func49 i49_ok (le_of_ble rfl) ?_
  show Wp Pg 7 0 i49_B ⟨argEnv _ i49_V,[],_,_⟩ (qf_49_v0 r)
  unfold zir at h
  unfold i49_B
  refine weakP [] ?_
  refine Wp.seq (regP (seqN (Wp.seq (Wp.reg ?_))))
  replace h:=bndS h; obtain ⟨r0_1,g1,h⟩:=h
  replace h:=retS h; subst h
  refine chunkF 2 (tab_cons (zre g1) (tab_nil _)) ?_
  refine lastT (tab_nil _) (seqN (Wp.ret ?_))
  exact finW [.cell 2 16 (.virt 11),.kill [0,1],.tidy]
noncomputable abbrev qf_76_v0(x0:TMsg)(r:Tmember):Ex→St→Prop:=FinQ 7 [] (.tup []) (zrl r.Raft.Id r.Raft.N r.Raft.Term r.Raft.Vote r.Raft.Role r.Raft.Lead r.Raft.Log.Base r.Raft.Log.BaseTerm r.Raft.Log.Entries r.Raft.Commit r.Raft.Snap r.Raft.Granted r.Raft.Next r.Raft.Match r.Raft.Clock r.Raft.Wait r.f_out x0.Data) 8
theorem zkz{to0:Int}{x0:TMsg}{m:Tmember}{r:Tmember} (h:zbz to0 x0 m=some r):Spec Pg 76 [.ptr 0 0,.int .i64 to0,.agg [.int .i64 x0.Kind,.int .i64 x0.Group,.int .i64 x0.From,.int .i64 x0.To,.int .i64 x0.Term,.int .i64 x0.At,.int .i64 x0.AtTerm,.int .i64 x0.Commit,.bool x0.Ok,sl TEntry.c x0.Entries,.own 1 6 0 ((x0.Data).length) false]] (zru m.Raft.Id m.Raft.N m.Raft.Term m.Raft.Vote m.Raft.Role m.Raft.Lead m.Raft.Log.Base m.Raft.Log.BaseTerm m.Raft.Log.Entries m.Raft.Commit m.Raft.Snap m.Raft.Granted m.Raft.Next m.Raft.Match m.Raft.Clock m.Raft.Wait m.f_out x0.Data) 7 (.tup []) (zrl r.Raft.Id r.Raft.N r.Raft.Term r.Raft.Vote r.Raft.Role r.Raft.Lead r.Raft.Log.Base r.Raft.Log.BaseTerm r.Raft.Log.Entries r.Raft.Commit r.Raft.Snap r.Raft.Granted r.Raft.Next r.Raft.Match r.Raft.Clock r.Raft.Wait r.f_out x0.Data) 8:=by
  refine Spec.intro Go.Proofs.Try.func76 i76_ok (le_of_ble rfl) ?_
  show Wp Pg 24 7 i76_B ⟨argEnv _ i76_V,[],_,_⟩ (qf_76_v0 x0 r)
  unfold zbz at h
  unfold i76_B
  refine weakP [.movc 0 16] ?_
  refine Wp.seq (regP (seqN (Wp.seq ?_)))
  refine regP (seqN ?_)
  replace h:=reqS h; obtain ⟨g1,h⟩:=h
  replace h:=retS h; subst h
  refine drawP [] mixed (clsN _) ?_
  exact finW [.kill [0,1,2,5],.tidy]
noncomputable abbrev qf_55(r:Int):Ex→St→Prop:=FinQ 0 [.tmp 2] (.int .i64 r) [] 0
theorem zbg{l:TLog}{r:Int} (h:zad l=some r):Spec Pg 55 [.agg [.int .i64 l.Base,.int .i64 l.BaseTerm,sl TEntry.c l.Entries]] [] 0 (.int .i64 r) [] 0:=by
  refine Spec.intro Go.Proofs.Try.func55 i55_ok (le_of_ble rfl) ?_
  show Wp Pg 9 0 i55_B ⟨argEnv _ i55_V,[],_,_⟩ (qf_55 r)
  unfold zad at h
  unfold i55_B
  refine weakP [] ?_
  replace h:=retS h; subst h
  refine Wp.seq (regP (seqN (Wp.seq ?_)))
  refine regP (seqN (Wp.ret ?_))
  exact finP
noncomputable abbrev qf_59(r:(Int × Bool)):Ex→St→Prop:=FinQ 0 [.tmp 4,.tmp 5] (.tup [.int .i64 r.1,.bool r.2]) [] 0
theorem zmp{l:TLog}{at0:Int}{v13:Bool}{r:(Int × Bool)} (h:zif l at0 v13=some r):Wp Pg 34 0 (.cond (.t 13) (.seq (.reg none i59_R4) .ret) .skip) ⟨[(0,.bad),(1,.int .i64 at0),(2,.ptr 0 0),(4,.bad),(5,.bad),(6,.bad),(13,.bool v13)],[],[(0,.box [.int .i64 l.Base,.int .i64 l.BaseTerm,sl TEntry.c l.Entries])],1⟩ (blockQ 0 (seqQ Pg 34 0 (.seq (.reg none i59_R5) .ret) (qf_59 r))):=by
  unfold zif at h
  replace h:=ifS h; rcases h with ⟨g4,h⟩ | ⟨g4,h⟩
  ·replace h:=retS h; subst h
   refine condTP (Wp.seq ?_)
   refine regP (seqN (Wp.ret (blockR (seqR ?_))))
   exact finP
  ·refine condFP (Wp.skip (blockN (seqN (Wp.seq ?_))))
   replace h:=bndS h; obtain ⟨e,g5,h⟩:=h
   replace h:=retS h; subst h
   refine regP (seqN (Wp.ret ?_))
   exact finP
theorem zcl{l:TLog}{at0:Int}{r:(Int × Bool)} (h:zbj l at0=some r):Spec Pg 59 [.agg [.int .i64 l.Base,.int .i64 l.BaseTerm,sl TEntry.c l.Entries],.int .i64 at0] [] 0 (.tup [.int .i64 r.1,.bool r.2]) [] 0:=by
  refine Spec.intro Go.Proofs.Try.func59 i59_ok (le_of_ble rfl) ?_
  show Wp Pg 34 0 i59_B ⟨argEnv _ i59_V,[],_,_⟩ (qf_59 r)
  unfold zbj at h
  unfold i59_B
  refine weakP [] ?_
  refine Wp.seq (regP (seqN (Wp.seq (Wp.block (Wp.seq ?_)))))
  refine regP (seqN ?_)
  replace h:=ifS h; rcases h with ⟨g1,h⟩ | ⟨g1,h⟩
  ·replace h:=retS h; subst h
   refine condTP (Wp.seq ?_)
   refine regP (seqN (Wp.ret (blockR (seqR ?_))))
   exact finP
  ·refine condFP (Wp.seq (Wp.reg ?_))
   replace h:=ifS h; rcases h with ⟨g2,h⟩ | ⟨g2,h⟩
   ·refine lastT (tab_nil _) (seqN ?_)
    exact jumpK [.kill [0,4,5,6]] (zmp h)
   ·replace h:=bndS h; obtain ⟨r0,g3,h⟩:=h
    refine chunkT 8 (tab_cons (zbg g3) (tab_nil _)) ?_
    refine lastT (tab_nil _) (seqN ?_)
    exact jumpK [.kill [0,4,5,6]] (zmp h)
noncomputable abbrev qf_75(r:(List TEntry)):Ex→St→Prop:=FinQ 0 [.tmp 6] (sl TEntry.c r) [] 0
theorem zku{l:TLog}{at0 most:Int}{v21:Bool}{r:(List TEntry)} (h:zhd l at0 most v21=some r):Wp Pg 37 0 (.cond (.t 21) (.seq (.reg none i75_R2) .ret) .skip) ⟨[(0,.bad),(1,.int .i64 at0),(2,.int .i64 most),(3,.ptr 0 0),(6,.bad),(7,.bad),(21,.bool v21)],[],[(0,.box [.int .i64 l.Base,.int .i64 l.BaseTerm,sl TEntry.c l.Entries])],1⟩ (seqQ Pg 37 0 (.seq (.reg none i75_R3) (.seq (.reg none i75_R4) .ret)) (qf_75 r)):=by
  unfold zhd at h
  replace h:=ifS h; rcases h with ⟨g4,h⟩ | ⟨g4,h⟩
  ·replace h:=retS h; subst h
   refine condTP (Wp.seq ?_)
   refine regP (seqN ?_)
   refine weakP [.at 6 .frz] (Wp.ret (seqR ?_))
   exact finP
  ·refine condFP (Wp.skip (seqN (Wp.seq ?_)))
   replace h:=bndS h; obtain ⟨l_1,g5,h⟩:=h
   refine regP (seqN (Wp.seq (Wp.reg ?_)))
   replace h:=bndS h; obtain ⟨l_2,g6,h⟩:=h
   replace h:=bndS h; obtain ⟨r0_1,g7,h⟩:=h
   replace h:=retS h; subst h
   refine chunkF 7 (tab_cons (zji g7) (tab_nil _)) ?_
   refine lastT (tab_nil _) (seqN ?_)
   refine weakP [.at 6 .frz] (Wp.ret ?_)
   exact finP
theorem zoq{l:TLog}{at0:Int}{most:Int}{r:(List TEntry)} (h:zhy l at0 most=some r):Spec Pg 75 [.agg [.int .i64 l.Base,.int .i64 l.BaseTerm,sl TEntry.c l.Entries],.int .i64 at0,.int .i64 most] [] 0 (sl TEntry.c r) [] 0:=by
  refine Spec.intro Go.Proofs.Try.func75 i75_ok (le_of_ble rfl) ?_
  show Wp Pg 37 0 i75_B ⟨argEnv _ i75_V,[],_,_⟩ (qf_75 r)
  unfold zhy at h
  unfold i75_B
  refine weakP [] ?_
  refine Wp.seq (regP (seqN (Wp.seq (Wp.seq (Wp.reg ?_)))))
  replace h:=ifS h; rcases h with ⟨g1,h⟩ | ⟨g1,h⟩
  ·refine lastT (tab_nil _) (seqN ?_)
   exact jumpK [.kill [0,6,7]] (zku h)
  ·replace h:=bndS h; obtain ⟨r0,g2,h⟩:=h
   refine chunkT 8 (tab_cons (zbg g2) (tab_nil _)) ?_
   replace h:=ifS h; rcases h with ⟨g3,h⟩ | ⟨g3,h⟩
   ·refine lastT (tab_nil _) (seqN ?_)
    exact jumpK [.kill [0,6,7]] (zku h)
   ·refine lastT (tab_nil _) (seqN ?_)
    exact jumpK [.kill [0,6,7]] (zku h)
noncomputable abbrev qf_51_v1(r:Tmember):Ex→St→Prop:=FinQ 6 [] (.tup []) (hp86 r.Raft.Id r.Raft.N r.Raft.Term r.Raft.Vote r.Raft.Role r.Raft.Lead r.Raft.Log.Base r.Raft.Log.BaseTerm r.Raft.Log.Entries r.Raft.Commit r.Raft.Snap r.Raft.Granted r.Raft.Next r.Raft.Match r.Raft.Clock r.Raft.Wait r.f_out) 7
theorem zja{to0:Int}{m:Tmember}{x_0 x_5 x_6:Int}{x_9:(List TEntry)}{x_10:(List Int)}{r:Tmember} (h:zex to0 m x_0 x_5 x_6 x_9 x_10=some r):Wp Pg 84 6 (.reg none i51_R7) ⟨[(0,.ptr 0 0),(1,.int .i64 to0),(4,.bad),(5,.ptr 7 0),(33,.bad)],[],(hp62 m.Raft.Id m.Raft.N m.Raft.Term m.Raft.Vote m.Raft.Role m.Raft.Lead m.Raft.Log.Base m.Raft.Log.BaseTerm m.Raft.Log.Entries m.Raft.Commit m.Raft.Snap m.Raft.Granted m.Raft.Next m.Raft.Match m.Raft.Clock m.Raft.Wait m.f_out x_0 (0:Int) (0:Int) (0:Int) m.Raft.Term x_5 x_6 m.Raft.Commit x_9 x_10),9⟩ (qf_51_v1 r):=by
  unfold zex at h
  refine Wp.reg ?_
  replace h:=bndS h; obtain ⟨r0_2,g6,h⟩:=h
  replace h:=retS h; subst h
  refine lastF (tab_cons (zkz g6) (tab_nil _)) ?_
  exact finW [.kill [0,1,5],.tidy]
theorem zhp{to0:Int}{m:Tmember}{r:Tmember} (h:zau to0 m=some r):Spec Pg 51 [.ptr 0 0,.int .i64 to0] (hp99 m.Raft.Id m.Raft.N m.Raft.Term m.Raft.Vote m.Raft.Role m.Raft.Lead m.Raft.Log.Base m.Raft.Log.BaseTerm m.Raft.Log.Entries m.Raft.Commit m.Raft.Snap m.Raft.Granted m.Raft.Next m.Raft.Match m.Raft.Clock m.Raft.Wait m.f_out) 6 (.tup []) (hp86 r.Raft.Id r.Raft.N r.Raft.Term r.Raft.Vote r.Raft.Role r.Raft.Lead r.Raft.Log.Base r.Raft.Log.BaseTerm r.Raft.Log.Entries r.Raft.Commit r.Raft.Snap r.Raft.Granted r.Raft.Next r.Raft.Match r.Raft.Clock r.Raft.Wait r.f_out) 7:=by
  refine Spec.intro Go.Proofs.Try.func51 i51_ok (le_of_ble rfl) ?_
  show Wp Pg 84 6 i51_B ⟨argEnv _ i51_V,[],_,_⟩ (qf_51_v1 r)
  unfold zau at h
  unfold i51_B
  refine weakP [.movc 0 16] ?_
  refine Wp.seq ?_
  replace h:=bndS h; obtain ⟨e,g1,h⟩:=h
  have:=ias_ownL (n:=1) (id:=3) (ex:=false) (k:=.i64) g1 rfl
  have:=ld_get (c:=(ci .i64)) g1
  refine regP (seqN (Wp.seq ?_))
  refine drawP [] mixed (clsN _) (seqN (Wp.seq (Wp.seq ?_)))
  refine regP (seqN ?_)
  replace h:=ifS h; rcases h with ⟨g2,h⟩ | ⟨g2,h⟩
  ·refine condTP ?_
   replace h:=reqS h; obtain ⟨g3,h⟩:=h
   refine drawP [] mixed (clsN _) (seqN ?_)
   exact jumpK [.kill [4,33],.cell 5 9 .frz,.tidy] (zja h)
  ·refine condFP (Wp.seq ?_)
   refine regP (seqN (Wp.seq ?_))
   replace h:=bndS h; obtain ⟨r0,g4,h⟩:=h
   refine drawP [] mixed (clsC 7 (tab_cons (zcl g4) (tab_nil _)) (clsN _)) (seqN (Wp.reg ?_))
   replace h:=bndS h; obtain ⟨r0_1,g5,h⟩:=h
   refine chunkT 7 (tab_cons (zoq g5) (tab_nil _)) ?_
   refine lastT (tab_nil _) (seqN ?_)
   exact jumpK [.kill [4,33],.cell 5 10 (.virt 1),.tidy] (zja h)
noncomputable abbrev qf_50_v0(r:Tmember):Ex→St→Prop:=FinQ 7 [] (.tup []) (hp44 r.Raft.Id r.Raft.N r.Raft.Term r.Raft.Vote r.Raft.Role r.Raft.Lead r.Raft.Log.Base r.Raft.Log.BaseTerm r.Raft.Log.Entries r.Raft.Commit r.Raft.Snap r.Raft.Granted r.Raft.Next r.Raft.Match r.Raft.Clock r.Raft.Wait r.f_out) 8
noncomputable abbrev zia (rec0:Int→Int→Int→Int→Int→Int→Int→Int→Int→(List TEntry)→Int→Int→Int→(List Int)→(List Bool)→(List Int)→(List Int)→(List TMsg)→Option Tmember)(r:Tmember):Prop:=∀ {to0 m_00 m_10 m_20 m_30 m_40 m_50 m_60 m_70:Int} {m_80:(List TEntry)} {m_90 zd zh:Int} {ze:(List Int)} {zi:(List Bool)} {zc zj:(List Int)} {zk:(List TMsg)},rec0 to0 m_00 m_10 m_20 m_30 m_40 m_50 m_60 m_70 m_80 m_90 zd zh ze zi zc zj zk=some r→LWp Pg 24 7 i50_L0 ⟨[(0,.ptr 0 0),(1,.fn (.func 51) [.ptr 0 0] []),(4,.int .i64 to0),(11,.bad),(20,.bad)],[],(hp44 m_00 m_10 m_20 m_30 m_40 m_50 m_60 m_70 m_80 m_90 ze zi zc zj zd zh zk),8⟩ (blockQ 0 (qf_50_v0 r))
theorem zko{to0 zbk zbl zbm zbn zbo zbp zbq zbr:Int}{zbs:(List TEntry)}{zbt zam zan:Int}{zao:(List Int)}{zap:(List Bool)}{zw zaq:(List Int)}{zar:(List TMsg)}{r:Tmember}{zy:Int→Int→Int→Int→Int→Int→Int→Int→Int→(List TEntry)→Int→Int→Int→(List Int)→(List Bool)→(List Int)→(List Int)→(List TMsg)→Option Tmember}(zev:zia zy r)(h:zgo zy to0 zbk zbl zbm zbn zbo zbp zbq zbr zbs zbt zam zan zao zap zw zaq zar=some r):Wp Pg 24 7 (.reg none i50_R4) ⟨[(0,.ptr 0 0),(1,.fn (.func 51) [.ptr 0 0] []),(4,.int .i64 to0),(11,.bad),(20,.bad)],[],(hp44 zbk zbl zbm zbn zbo zbp zbq zbr zbs zbt zao zap zw zaq zam zan zar),8⟩ (loopQ Pg 24 7 i50_L0 (blockQ 0 (qf_50_v0 r))):=by
  unfold zgo at h
  refine regP (loopN ?_)
  exact jumpL [] (zev h)
theorem zmq {r:Tmember} {zy:Int→Int→Int→Int→Int→Int→Int→Int→Int→(List TEntry)→Int→Int→Int→(List Int)→(List Bool)→(List Int)→(List Int)→(List TMsg)→Option Tmember}(zev:zia zy r){to0 m_00 m_10 m_20 m_30 m_40 m_50 m_60 m_70:Int}{m_80:(List TEntry)}{m_90 zd zh:Int}{ze:(List Int)}{zi:(List Bool)}{zc zj:(List Int)}{zk:(List TMsg)}(h:zhz zy to0 m_00 m_10 m_20 m_30 m_40 m_50 m_60 m_70 m_80 m_90 zd zh ze zi zc zj zk=some r):LWp Pg 24 7 i50_L0 ⟨[(0,.ptr 0 0),(1,.fn (.func 51) [.ptr 0 0] []),(4,.int .i64 to0),(11,.bad),(20,.bad)],[],(hp44 m_00 m_10 m_20 m_30 m_40 m_50 m_60 m_70 m_80 m_90 ze zi zc zj zd zh zk),8⟩ (blockQ 0 (qf_50_v0 r)):=by
  unfold zhz at h
  refine LWp.stepC i50_L0.eq_1 ?_
  refine Wp.seq (Wp.seq (regP (seqN ?_)))
  replace h:=ifS h; rcases h with ⟨g1,h⟩ | ⟨g1,h⟩
  ·refine condTP (Wp.skip (seqN (Wp.seq (Wp.block (Wp.seq ?_)))))
   refine regP (seqN ?_)
   replace h:=ifS h; rcases h with ⟨g2,h⟩ | ⟨g2,h⟩
   ·refine condTP (Wp.reg ?_)
    replace h:=bndS h; obtain ⟨r0,g3,h⟩:=h
    refine lastF (tab_cons (zhp g3) (tab_nil _)) (blockN (seqN ?_))
    exact jumpK [.kill [11,20],.tidy] (zko zev h)
   ·refine condFP (Wp.skip (blockN (seqN ?_)))
    exact jumpK [.kill [11,20]] (zko zev h)
  ·replace h:=retS h; subst h
   refine condFP (Wp.out (seqO (loopO (blockO ?_))))
   exact finW [.kill [0,1,4,11],.tidy]
theorem znk {r:Tmember}:∀ (n:Nat),zia (zdi n) r:=by
  intro n
  induction n with
  | zero=>intro to0 m_00 m_10 m_20 m_30 m_40 m_50 m_60 m_70 m_80 m_90 zd zh ze zi zc zj zk h; unfold zdi at h; cases h
  | succ n ih=>intro to0 m_00 m_10 m_20 m_30 m_40 m_50 m_60 m_70 m_80 m_90 zd zh ze zi zc zj zk h; unfold zdi at h; exact zmq ih h
theorem zor{m:Tmember}{r:Tmember} (h:zgj m=some r):Spec Pg 50 [.ptr 0 0,.fn (.func 51) [.ptr 0 0] []] (hp15 m.Raft.Id m.Raft.N m.Raft.Term m.Raft.Vote m.Raft.Role m.Raft.Lead m.Raft.Log.Base m.Raft.Log.BaseTerm m.Raft.Log.Entries m.Raft.Commit m.Raft.Snap m.Raft.Granted m.Raft.Next m.Raft.Match m.Raft.Clock m.Raft.Wait m.f_out) 7 (.tup []) (hp44 r.Raft.Id r.Raft.N r.Raft.Term r.Raft.Vote r.Raft.Role r.Raft.Lead r.Raft.Log.Base r.Raft.Log.BaseTerm r.Raft.Log.Entries r.Raft.Commit r.Raft.Snap r.Raft.Granted r.Raft.Next r.Raft.Match r.Raft.Clock r.Raft.Wait r.f_out) 8:=by
  refine Spec.intro Go.Proofs.Try.func50 i50_ok (le_of_ble rfl) ?_
  show Wp Pg 24 7 i50_B ⟨argEnv _ i50_V,[],_,_⟩ (qf_50_v0 r)
  unfold zgj at h
  unfold i50_B
  refine weakP [.movc 0 16,.movc 0 8] ?_
  refine Wp.seq (regP (seqN (Wp.block (Wp.loop ?_))))
  exact jumpL [.kill [11,20],.cell 0 8 .frz,.tidy] (znk _ h)
noncomputable abbrev qf_50_v1(r:Tmember):Ex→St→Prop:=FinQ 6 [] (.tup []) (hp86 r.Raft.Id r.Raft.N r.Raft.Term r.Raft.Vote r.Raft.Role r.Raft.Lead r.Raft.Log.Base r.Raft.Log.BaseTerm r.Raft.Log.Entries r.Raft.Commit r.Raft.Snap r.Raft.Granted r.Raft.Next r.Raft.Match r.Raft.Clock r.Raft.Wait r.f_out) 7
noncomputable abbrev zgx (rec0:Int→Int→Int→Int→Int→Int→Int→Int→Int→(List TEntry)→Int→Int→Int→(List Int)→(List Bool)→(List Int)→(List Int)→(List TMsg)→Option Tmember)(r:Tmember):Prop:=∀ {to0 m_00 m_10 m_20 m_30 m_40 m_50 m_60 m_70:Int} {m_80:(List TEntry)} {m_90 zd zh:Int} {ze:(List Int)} {zi:(List Bool)} {zc zj:(List Int)} {zk:(List TMsg)},rec0 to0 m_00 m_10 m_20 m_30 m_40 m_50 m_60 m_70 m_80 m_90 zd zh ze zi zc zj zk=some r→LWp Pg 24 6 i50_L0 ⟨[(0,.ptr 0 0),(1,.fn (.func 51) [.ptr 0 0] []),(4,.int .i64 to0),(11,.bad),(20,.bad)],[],(hp86 m_00 m_10 m_20 m_30 m_40 m_50 m_60 m_70 m_80 m_90 ze zi zc zj zd zh zk),7⟩ (blockQ 0 (qf_50_v1 r))
theorem zjj{to0 zbk zbl zbm zbn zbo zbp zbq zbr:Int}{zbs:(List TEntry)}{zbt zam zan:Int}{zao:(List Int)}{zap:(List Bool)}{zw zaq:(List Int)}{zar:(List TMsg)}{r:Tmember}{zp:Int→Int→Int→Int→Int→Int→Int→Int→Int→(List TEntry)→Int→Int→Int→(List Int)→(List Bool)→(List Int)→(List Int)→(List TMsg)→Option Tmember}(zdm:zgx zp r)(h:zfj zp to0 zbk zbl zbm zbn zbo zbp zbq zbr zbs zbt zam zan zao zap zw zaq zar=some r):Wp Pg 24 6 (.reg none i50_R4) ⟨[(0,.ptr 0 0),(1,.fn (.func 51) [.ptr 0 0] []),(4,.int .i64 to0),(11,.bad),(20,.bad)],[],(hp86 zbk zbl zbm zbn zbo zbp zbq zbr zbs zbt zao zap zw zaq zam zan zar),7⟩ (loopQ Pg 24 6 i50_L0 (blockQ 0 (qf_50_v1 r))):=by
  unfold zfj at h
  refine regP (loopN ?_)
  exact jumpL [] (zdm h)
theorem zlr {r:Tmember} {zp:Int→Int→Int→Int→Int→Int→Int→Int→Int→(List TEntry)→Int→Int→Int→(List Int)→(List Bool)→(List Int)→(List Int)→(List TMsg)→Option Tmember}(zdm:zgx zp r){to0 m_00 m_10 m_20 m_30 m_40 m_50 m_60 m_70:Int}{m_80:(List TEntry)}{m_90 zd zh:Int}{ze:(List Int)}{zi:(List Bool)}{zc zj:(List Int)}{zk:(List TMsg)}(h:zgp zp to0 m_00 m_10 m_20 m_30 m_40 m_50 m_60 m_70 m_80 m_90 zd zh ze zi zc zj zk=some r):LWp Pg 24 6 i50_L0 ⟨[(0,.ptr 0 0),(1,.fn (.func 51) [.ptr 0 0] []),(4,.int .i64 to0),(11,.bad),(20,.bad)],[],(hp86 m_00 m_10 m_20 m_30 m_40 m_50 m_60 m_70 m_80 m_90 ze zi zc zj zd zh zk),7⟩ (blockQ 0 (qf_50_v1 r)):=by
  unfold zgp at h
  refine LWp.stepC i50_L0.eq_1 ?_
  refine Wp.seq (Wp.seq (regP (seqN ?_)))
  replace h:=ifS h; rcases h with ⟨g1,h⟩ | ⟨g1,h⟩
  ·refine condTP (Wp.skip (seqN (Wp.seq (Wp.block (Wp.seq ?_)))))
   refine regP (seqN ?_)
   replace h:=ifS h; rcases h with ⟨g2,h⟩ | ⟨g2,h⟩
   ·refine condTP (Wp.reg ?_)
    replace h:=bndS h; obtain ⟨r0,g3,h⟩:=h
    refine lastF (tab_cons (zhp g3) (tab_nil _)) (blockN (seqN ?_))
    exact jumpK [.kill [11,20],.tidy] (zjj zdm h)
   ·refine condFP (Wp.skip (blockN (seqN ?_)))
    exact jumpK [.kill [11,20]] (zjj zdm h)
  ·replace h:=retS h; subst h
   refine condFP (Wp.out (seqO (loopO (blockO ?_))))
   exact finW [.kill [0,1,4,11],.tidy]
theorem zmh {r:Tmember}:∀ (n:Nat),zgx (zcb n) r:=by
  intro n
  induction n with
  | zero=>intro to0 m_00 m_10 m_20 m_30 m_40 m_50 m_60 m_70 m_80 m_90 zd zh ze zi zc zj zk h; unfold zcb at h; cases h
  | succ n ih=>intro to0 m_00 m_10 m_20 m_30 m_40 m_50 m_60 m_70 m_80 m_90 zd zh ze zi zc zj zk h; unfold zcb at h; exact zlr ih h
theorem znl{m:Tmember}{r:Tmember} (h:zey m=some r):Spec Pg 50 [.ptr 0 0,.fn (.func 51) [.ptr 0 0] []] (hp67 m.Raft.Id m.Raft.N m.Raft.Term m.Raft.Vote m.Raft.Role m.Raft.Lead m.Raft.Log.Base m.Raft.Log.BaseTerm m.Raft.Log.Entries m.Raft.Commit m.Raft.Snap m.Raft.Granted m.Raft.Next m.Raft.Match m.Raft.Clock m.Raft.Wait m.f_out) 6 (.tup []) (hp86 r.Raft.Id r.Raft.N r.Raft.Term r.Raft.Vote r.Raft.Role r.Raft.Lead r.Raft.Log.Base r.Raft.Log.BaseTerm r.Raft.Log.Entries r.Raft.Commit r.Raft.Snap r.Raft.Granted r.Raft.Next r.Raft.Match r.Raft.Clock r.Raft.Wait r.f_out) 7:=by
  refine Spec.intro Go.Proofs.Try.func50 i50_ok (le_of_ble rfl) ?_
  show Wp Pg 24 6 i50_B ⟨argEnv _ i50_V,[],_,_⟩ (qf_50_v1 r)
  unfold zey at h
  unfold i50_B
  refine weakP [.movc 0 16] ?_
  refine Wp.seq (regP (seqN (Wp.block (Wp.loop ?_))))
  exact jumpL [.kill [11,20],.cell 0 12 (.virt 1),.cell 0 13 (.virt 1),.tidy] (zmh _ h)
noncomputable abbrev qf_76_v2(r:Tmember):Ex→St→Prop:=FinQ 7 [] (.tup []) (zrm r.Raft.Id r.Raft.N r.Raft.Term r.Raft.Vote r.Raft.Role r.Raft.Lead r.Raft.Log.Base r.Raft.Log.BaseTerm r.Raft.Log.Entries r.Raft.Commit r.Raft.Snap r.Raft.Granted r.Raft.Next r.Raft.Match r.Raft.Clock r.Raft.Wait r.f_out) 8
theorem zkb{to0:Int}{x0:TMsg}{m:Tmember}{r:Tmember} (h:zcu to0 x0 m=some r):Spec Pg 76 [.ptr 0 0,.int .i64 to0,.agg [.int .i64 x0.Kind,.int .i64 x0.Group,.int .i64 x0.From,.int .i64 x0.To,.int .i64 x0.Term,.int .i64 x0.At,.int .i64 x0.AtTerm,.int .i64 x0.Commit,.bool x0.Ok,.nil,.nil]] (hp65 m.Raft.Id m.Raft.N m.Raft.Term m.Raft.Vote m.Raft.Role m.Raft.Lead m.Raft.Log.Base m.Raft.Log.BaseTerm m.Raft.Log.Entries m.Raft.Commit m.Raft.Snap m.Raft.Granted m.Raft.Next m.Raft.Match m.Raft.Clock m.Raft.Wait m.f_out) 7 (.tup []) (zrm r.Raft.Id r.Raft.N r.Raft.Term r.Raft.Vote r.Raft.Role r.Raft.Lead r.Raft.Log.Base r.Raft.Log.BaseTerm r.Raft.Log.Entries r.Raft.Commit r.Raft.Snap r.Raft.Granted r.Raft.Next r.Raft.Match r.Raft.Clock r.Raft.Wait r.f_out) 8:=by
  refine Spec.intro Go.Proofs.Try.func76 i76_ok (le_of_ble rfl) ?_
  show Wp Pg 24 7 i76_B ⟨argEnv _ i76_V,[],_,_⟩ (qf_76_v2 r)
  unfold zcu at h
  unfold i76_B
  refine weakP [.movc 0 16] ?_
  refine Wp.seq (regP (seqN (Wp.seq ?_)))
  refine regP (seqN ?_)
  replace h:=reqS h; obtain ⟨g1,h⟩:=h
  replace h:=retS h; subst h
  refine drawP [] mixed (clsN _) ?_
  exact finW [.kill [0,1,2,5],.tidy]
noncomputable abbrev qf_32(r:Int):Ex→St→Prop:=FinQ 0 [.tmp 2] (.int .i64 r) [] 0
theorem zie{l:TLog}{r:Int} (h:zdw l=some r):Spec Pg 32 [.agg [.int .i64 l.Base,.int .i64 l.BaseTerm,sl TEntry.c l.Entries]] [] 0 (.int .i64 r) [] 0:=by
  refine Spec.intro Go.Proofs.Try.func32 i32_ok (le_of_ble rfl) ?_
  show Wp Pg 13 0 i32_B ⟨argEnv _ i32_V,[],_,_⟩ (qf_32 r)
  unfold zdw at h
  unfold i32_B
  refine weakP [] ?_
  refine Wp.seq (regP (seqN (Wp.seq ?_)))
  replace h:=bndS h; obtain ⟨r0,g1,h⟩:=h
  replace h:=bndS h; obtain ⟨r0_1,g2,h⟩:=h
  replace h:=retS h; subst h
  refine drawP [] mixed (clsC 2 (tab_cons (zbg g1) (tab_nil _)) (clsC 3 (tab_cons (zcl g2) (tab_nil _)) (clsN _))) (seqN (Wp.seq ?_))
  refine regP (seqN (Wp.ret ?_))
  exact finP
noncomputable abbrev qf_83_v0(r:Tmember):Ex→St→Prop:=FinQ 8 [] (.tup []) (zqs r.Raft.Id r.Raft.N r.Raft.Term r.Raft.Vote r.Raft.Role r.Raft.Lead r.Raft.Log.Base r.Raft.Log.BaseTerm r.Raft.Log.Entries r.Raft.Commit r.Raft.Snap r.Raft.Granted r.Raft.Next r.Raft.Match r.Raft.Clock r.Raft.Wait r.f_out) 9
theorem zmx{to0:Int}{b1:Tmember}{r:Tmember} (h:zcv to0 b1=some r):Spec Pg 83 [.int .i64 to0,.ptr 0 0] (zrn b1.Raft.Id b1.Raft.N b1.Raft.Term b1.Raft.Vote b1.Raft.Role b1.Raft.Lead b1.Raft.Log.Base b1.Raft.Log.BaseTerm b1.Raft.Log.Entries b1.Raft.Commit b1.Raft.Snap b1.Raft.Granted b1.Raft.Next b1.Raft.Match b1.Raft.Clock b1.Raft.Wait b1.f_out) 8 (.tup []) (zqs r.Raft.Id r.Raft.N r.Raft.Term r.Raft.Vote r.Raft.Role r.Raft.Lead r.Raft.Log.Base r.Raft.Log.BaseTerm r.Raft.Log.Entries r.Raft.Commit r.Raft.Snap r.Raft.Granted r.Raft.Next r.Raft.Match r.Raft.Clock r.Raft.Wait r.f_out) 9:=by
  refine Spec.intro Go.Proofs.Try.func83 i83_ok (le_of_ble rfl) ?_
  show Wp Pg 24 8 i83_B ⟨argEnv _ i83_V,[],_,_⟩ (qf_83_v0 r)
  unfold zcv at h
  unfold i83_B
  refine weakP [] ?_
  replace h:=bndS h; obtain ⟨r0,g1,h⟩:=h
  replace h:=bndS h; obtain ⟨r0_1,g2,h⟩:=h
  replace h:=bndS h; obtain ⟨r0_2,g3,h⟩:=h
  replace h:=retS h; subst h
  refine drawP [76] mixed (clsC 12 (tab_cons (zbg g1) (tab_nil _)) (clsC 18 (tab_cons (zie g2) (tab_nil _)) (clsC 20 (tab_cons (zkb g3) (tab_nil _)) (clsN _)))) ?_
  exact finW [.kill [0,1],.tidy]
noncomputable abbrev qf_50_v2(r:Tmember):Ex→St→Prop:=FinQ 8 [] (.tup []) (zqt r.Raft.Id r.Raft.N r.Raft.Term r.Raft.Vote r.Raft.Role r.Raft.Lead r.Raft.Log.Base r.Raft.Log.BaseTerm r.Raft.Log.Entries r.Raft.Commit r.Raft.Snap r.Raft.Granted r.Raft.Next r.Raft.Match r.Raft.Clock r.Raft.Wait r.f_out) 9
noncomputable abbrev zgy (rec0:Int→Int→Int→Int→Int→Int→Int→Int→Int→Int→Int→Int→(List TEntry)→(List Int)→(List Bool)→(List Int)→(List Int)→(List TMsg)→Option Tmember)(r:Tmember):Prop:=∀ {to0 m_00 m_10 m_20 m_30 m_40 m_50 m_60 m_70 m_90 zd zh:Int} {m_80:(List TEntry)} {ze:(List Int)} {zi:(List Bool)} {zc zj:(List Int)} {zk:(List TMsg)},rec0 to0 m_00 m_10 m_20 m_30 m_40 m_50 m_60 m_70 m_90 zd zh m_80 ze zi zc zj zk=some r→LWp Pg 24 8 i50_L0 ⟨[(0,.ptr 0 0),(1,.fn (.func 83) [] [.ptr 7 0]),(4,.int .i64 to0),(11,.bad),(20,.bad)],[],(hp92 m_00 m_10 m_20 m_30 m_40 m_50 m_60 m_70 m_80 m_90 ze zi zc zj zd zh zk),9⟩ (blockQ 0 (qf_50_v2 r))
theorem zjk{to0 zbk zbl zbm zbn zbo zbp zbq zbr zbt zam zan:Int}{zbs:(List TEntry)}{zao:(List Int)}{zap:(List Bool)}{zw zaq:(List Int)}{zar:(List TMsg)}{r:Tmember}{zq:Int→Int→Int→Int→Int→Int→Int→Int→Int→Int→Int→Int→(List TEntry)→(List Int)→(List Bool)→(List Int)→(List Int)→(List TMsg)→Option Tmember}(zdn:zgy zq r)(h:zfk zq to0 zbk zbl zbm zbn zbo zbp zbq zbr zbt zam zan zbs zao zap zw zaq zar=some r):Wp Pg 24 8 (.reg none i50_R4) ⟨[(0,.ptr 0 0),(1,.fn (.func 83) [] [.ptr 7 0]),(4,.int .i64 to0),(11,.bad),(20,.bad)],[],(hp92 zbk zbl zbm zbn zbo zbp zbq zbr zbs zbt zao zap zw zaq zam zan zar),9⟩ (loopQ Pg 24 8 i50_L0 (blockQ 0 (qf_50_v2 r))):=by
  unfold zfk at h
  refine regP (loopN ?_)
  exact jumpL [] (zdn h)
theorem zls {r:Tmember} {zq:Int→Int→Int→Int→Int→Int→Int→Int→Int→Int→Int→Int→(List TEntry)→(List Int)→(List Bool)→(List Int)→(List Int)→(List TMsg)→Option Tmember}(zdn:zgy zq r){to0 m_00 m_10 m_20 m_30 m_40 m_50 m_60 m_70 m_90 zd zh:Int}{m_80:(List TEntry)}{ze:(List Int)}{zi:(List Bool)}{zc zj:(List Int)}{zk:(List TMsg)}(h:zgq zq to0 m_00 m_10 m_20 m_30 m_40 m_50 m_60 m_70 m_90 zd zh m_80 ze zi zc zj zk=some r):LWp Pg 24 8 i50_L0 ⟨[(0,.ptr 0 0),(1,.fn (.func 83) [] [.ptr 7 0]),(4,.int .i64 to0),(11,.bad),(20,.bad)],[],(hp92 m_00 m_10 m_20 m_30 m_40 m_50 m_60 m_70 m_80 m_90 ze zi zc zj zd zh zk),9⟩ (blockQ 0 (qf_50_v2 r)):=by
  unfold zgq at h
  refine LWp.stepC i50_L0.eq_1 ?_
  refine Wp.seq (Wp.seq (regP (seqN ?_)))
  replace h:=ifS h; rcases h with ⟨g1,h⟩ | ⟨g1,h⟩
  ·refine condTP (Wp.skip (seqN (Wp.seq (Wp.block (Wp.seq ?_)))))
   refine regP (seqN ?_)
   replace h:=ifS h; rcases h with ⟨g2,h⟩ | ⟨g2,h⟩
   ·refine condTP (Wp.reg ?_)
    replace h:=bndS h; obtain ⟨r0,g3,h⟩:=h
    refine lastF (tab_cons (zmx g3) (tab_nil _)) (blockN (seqN ?_))
    exact jumpK [.kill [11,20],.tidy] (zjk zdn h)
   ·refine condFP (Wp.skip (blockN (seqN ?_)))
    exact jumpK [.kill [11,20]] (zjk zdn h)
  ·replace h:=retS h; subst h
   refine condFP (Wp.out (seqO (loopO (blockO ?_))))
   exact finW [.cell 0 11 (.virt 1),.kill [0,1,4,11],.tidy]
theorem zmi {r:Tmember}:∀ (n:Nat),zgy (zcc n) r:=by
  intro n
  induction n with
  | zero=>intro to0 m_00 m_10 m_20 m_30 m_40 m_50 m_60 m_70 m_90 zd zh m_80 ze zi zc zj zk h; unfold zcc at h; cases h
  | succ n ih=>intro to0 m_00 m_10 m_20 m_30 m_40 m_50 m_60 m_70 m_90 zd zh m_80 ze zi zc zj zk h; unfold zcc at h; exact zls ih h
theorem zkp{m:Tmember}{r:Tmember} (h:zez m=some r):Spec Pg 50 [.ptr 0 0,.fn (.func 83) [] [.ptr 7 0]] (hp91 m.Raft.Id m.Raft.N m.Raft.Term m.Raft.Vote m.Raft.Role m.Raft.Lead m.Raft.Log.Base m.Raft.Log.BaseTerm m.Raft.Log.Entries m.Raft.Commit m.Raft.Snap m.Raft.Granted m.Raft.Next m.Raft.Match m.Raft.Clock m.Raft.Wait m.f_out) 8 (.tup []) (zqt r.Raft.Id r.Raft.N r.Raft.Term r.Raft.Vote r.Raft.Role r.Raft.Lead r.Raft.Log.Base r.Raft.Log.BaseTerm r.Raft.Log.Entries r.Raft.Commit r.Raft.Snap r.Raft.Granted r.Raft.Next r.Raft.Match r.Raft.Clock r.Raft.Wait r.f_out) 9:=by
  refine Spec.intro Go.Proofs.Try.func50 i50_ok (le_of_ble rfl) ?_
  show Wp Pg 24 8 i50_B ⟨argEnv _ i50_V,[],_,_⟩ (qf_50_v2 r)
  unfold zez at h
  unfold i50_B
  refine weakP [.movc 0 16] ?_
  refine Wp.seq (regP (seqN (Wp.block (Wp.loop ?_))))
  exact jumpL [.kill [11,20],.tidy] (zmi _ h)
noncomputable abbrev qf_78_v0(r:Tmember):Ex→St→Prop:=FinQ 8 [] (.tup []) (zqs r.Raft.Id r.Raft.N r.Raft.Term r.Raft.Vote r.Raft.Role r.Raft.Lead r.Raft.Log.Base r.Raft.Log.BaseTerm r.Raft.Log.Entries r.Raft.Commit r.Raft.Snap r.Raft.Granted r.Raft.Next r.Raft.Match r.Raft.Clock r.Raft.Wait r.f_out) 9
theorem zob{to0:Int}{b1:Tmember}{r:Tmember} (h:zdz to0 b1=some r):Spec Pg 78 [.int .i64 to0,.ptr 0 0] (zrn b1.Raft.Id b1.Raft.N b1.Raft.Term b1.Raft.Vote b1.Raft.Role b1.Raft.Lead b1.Raft.Log.Base b1.Raft.Log.BaseTerm b1.Raft.Log.Entries b1.Raft.Commit b1.Raft.Snap b1.Raft.Granted b1.Raft.Next b1.Raft.Match b1.Raft.Clock b1.Raft.Wait b1.f_out) 8 (.tup []) (zqs r.Raft.Id r.Raft.N r.Raft.Term r.Raft.Vote r.Raft.Role r.Raft.Lead r.Raft.Log.Base r.Raft.Log.BaseTerm r.Raft.Log.Entries r.Raft.Commit r.Raft.Snap r.Raft.Granted r.Raft.Next r.Raft.Match r.Raft.Clock r.Raft.Wait r.f_out) 9:=by
  refine Spec.intro Go.Proofs.Try.func78 i78_ok (le_of_ble rfl) ?_
  show Wp Pg 25 8 i78_B ⟨argEnv _ i78_V,[],_,_⟩ (qf_78_v0 r)
  unfold zdz at h
  unfold i78_B
  refine weakP [] ?_
  replace h:=bndS h; obtain ⟨r0,g1,h⟩:=h
  replace h:=bndS h; obtain ⟨r0_1,g2,h⟩:=h
  replace h:=bndS h; obtain ⟨r0_2,g3,h⟩:=h
  replace h:=retS h; subst h
  refine drawP [76] mixed (clsC 13 (tab_cons (zbg g1) (tab_nil _)) (clsC 19 (tab_cons (zie g2) (tab_nil _)) (clsC 21 (tab_cons (zkb g3) (tab_nil _)) (clsN _)))) ?_
  exact finW [.kill [0,1],.tidy]
noncomputable abbrev qf_50_v3(r:Tmember):Ex→St→Prop:=FinQ 8 [] (.tup []) (zqt r.Raft.Id r.Raft.N r.Raft.Term r.Raft.Vote r.Raft.Role r.Raft.Lead r.Raft.Log.Base r.Raft.Log.BaseTerm r.Raft.Log.Entries r.Raft.Commit r.Raft.Snap r.Raft.Granted r.Raft.Next r.Raft.Match r.Raft.Clock r.Raft.Wait r.f_out) 9
noncomputable abbrev zgz (rec0:Int→Int→Int→Int→Int→Int→Int→Int→Int→Int→Int→Int→(List TEntry)→(List Int)→(List Bool)→(List Int)→(List Int)→(List TMsg)→Option Tmember)(r:Tmember):Prop:=∀ {to0 m_00 m_10 m_20 m_30 m_40 m_50 m_60 m_70 m_90 zd zh:Int} {m_80:(List TEntry)} {ze:(List Int)} {zi:(List Bool)} {zc zj:(List Int)} {zk:(List TMsg)},rec0 to0 m_00 m_10 m_20 m_30 m_40 m_50 m_60 m_70 m_90 zd zh m_80 ze zi zc zj zk=some r→LWp Pg 24 8 i50_L0 ⟨[(0,.ptr 0 0),(1,.fn (.func 78) [] [.ptr 7 0]),(4,.int .i64 to0),(11,.bad),(20,.bad)],[],(hp92 m_00 m_10 m_20 m_30 m_40 m_50 m_60 m_70 m_80 m_90 ze zi zc zj zd zh zk),9⟩ (blockQ 0 (qf_50_v3 r))
theorem zjl{to0 zbk zbl zbm zbn zbo zbp zbq zbr zbt zam zan:Int}{zbs:(List TEntry)}{zao:(List Int)}{zap:(List Bool)}{zw zaq:(List Int)}{zar:(List TMsg)}{r:Tmember}{zr:Int→Int→Int→Int→Int→Int→Int→Int→Int→Int→Int→Int→(List TEntry)→(List Int)→(List Bool)→(List Int)→(List Int)→(List TMsg)→Option Tmember}(zdo:zgz zr r)(h:zfl zr to0 zbk zbl zbm zbn zbo zbp zbq zbr zbt zam zan zbs zao zap zw zaq zar=some r):Wp Pg 24 8 (.reg none i50_R4) ⟨[(0,.ptr 0 0),(1,.fn (.func 78) [] [.ptr 7 0]),(4,.int .i64 to0),(11,.bad),(20,.bad)],[],(hp92 zbk zbl zbm zbn zbo zbp zbq zbr zbs zbt zao zap zw zaq zam zan zar),9⟩ (loopQ Pg 24 8 i50_L0 (blockQ 0 (qf_50_v3 r))):=by
  unfold zfl at h
  refine regP (loopN ?_)
  exact jumpL [] (zdo h)
theorem zlt {r:Tmember} {zr:Int→Int→Int→Int→Int→Int→Int→Int→Int→Int→Int→Int→(List TEntry)→(List Int)→(List Bool)→(List Int)→(List Int)→(List TMsg)→Option Tmember}(zdo:zgz zr r){to0 m_00 m_10 m_20 m_30 m_40 m_50 m_60 m_70 m_90 zd zh:Int}{m_80:(List TEntry)}{ze:(List Int)}{zi:(List Bool)}{zc zj:(List Int)}{zk:(List TMsg)}(h:zgr zr to0 m_00 m_10 m_20 m_30 m_40 m_50 m_60 m_70 m_90 zd zh m_80 ze zi zc zj zk=some r):LWp Pg 24 8 i50_L0 ⟨[(0,.ptr 0 0),(1,.fn (.func 78) [] [.ptr 7 0]),(4,.int .i64 to0),(11,.bad),(20,.bad)],[],(hp92 m_00 m_10 m_20 m_30 m_40 m_50 m_60 m_70 m_80 m_90 ze zi zc zj zd zh zk),9⟩ (blockQ 0 (qf_50_v3 r)):=by
  unfold zgr at h
  refine LWp.stepC i50_L0.eq_1 ?_
  refine Wp.seq (Wp.seq (regP (seqN ?_)))
  replace h:=ifS h; rcases h with ⟨g1,h⟩ | ⟨g1,h⟩
  ·refine condTP (Wp.skip (seqN (Wp.seq (Wp.block (Wp.seq ?_)))))
   refine regP (seqN ?_)
   replace h:=ifS h; rcases h with ⟨g2,h⟩ | ⟨g2,h⟩
   ·refine condTP (Wp.reg ?_)
    replace h:=bndS h; obtain ⟨r0,g3,h⟩:=h
    refine lastF (tab_cons (zob g3) (tab_nil _)) (blockN (seqN ?_))
    exact jumpK [.kill [11,20],.tidy] (zjl zdo h)
   ·refine condFP (Wp.skip (blockN (seqN ?_)))
    exact jumpK [.kill [11,20]] (zjl zdo h)
  ·replace h:=retS h; subst h
   refine condFP (Wp.out (seqO (loopO (blockO ?_))))
   exact finW [.cell 0 11 (.virt 1),.kill [0,1,4,11],.tidy]
theorem zmj {r:Tmember}:∀ (n:Nat),zgz (zcd n) r:=by
  intro n
  induction n with
  | zero=>intro to0 m_00 m_10 m_20 m_30 m_40 m_50 m_60 m_70 m_90 zd zh m_80 ze zi zc zj zk h; unfold zcd at h; cases h
  | succ n ih=>intro to0 m_00 m_10 m_20 m_30 m_40 m_50 m_60 m_70 m_90 zd zh m_80 ze zi zc zj zk h; unfold zcd at h; exact zlt ih h
theorem znm{m:Tmember}{r:Tmember} (h:zgs m=some r):Spec Pg 50 [.ptr 0 0,.fn (.func 78) [] [.ptr 7 0]] (hp91 m.Raft.Id m.Raft.N m.Raft.Term m.Raft.Vote m.Raft.Role m.Raft.Lead m.Raft.Log.Base m.Raft.Log.BaseTerm m.Raft.Log.Entries m.Raft.Commit m.Raft.Snap m.Raft.Granted m.Raft.Next m.Raft.Match m.Raft.Clock m.Raft.Wait m.f_out) 8 (.tup []) (zqt r.Raft.Id r.Raft.N r.Raft.Term r.Raft.Vote r.Raft.Role r.Raft.Lead r.Raft.Log.Base r.Raft.Log.BaseTerm r.Raft.Log.Entries r.Raft.Commit r.Raft.Snap r.Raft.Granted r.Raft.Next r.Raft.Match r.Raft.Clock r.Raft.Wait r.f_out) 9:=by
  refine Spec.intro Go.Proofs.Try.func50 i50_ok (le_of_ble rfl) ?_
  show Wp Pg 24 8 i50_B ⟨argEnv _ i50_V,[],_,_⟩ (qf_50_v3 r)
  unfold zgs at h
  unfold i50_B
  refine weakP [.movc 0 16] ?_
  refine Wp.seq (regP (seqN (Wp.block (Wp.loop ?_))))
  exact jumpL [.kill [11,20],.tidy] (zmj _ h)
noncomputable abbrev qf_50_v4(r:Tmember):Ex→St→Prop:=FinQ 6 [] (.tup []) (hp86 r.Raft.Id r.Raft.N r.Raft.Term r.Raft.Vote r.Raft.Role r.Raft.Lead r.Raft.Log.Base r.Raft.Log.BaseTerm r.Raft.Log.Entries r.Raft.Commit r.Raft.Snap r.Raft.Granted r.Raft.Next r.Raft.Match r.Raft.Clock r.Raft.Wait r.f_out) 7
noncomputable abbrev zha (rec0:Int→Int→Int→Int→Int→Int→Int→Int→Int→(List TEntry)→Int→Int→Int→(List Int)→(List Bool)→(List Int)→(List Int)→(List TMsg)→Option Tmember)(r:Tmember):Prop:=∀ {to0 m_00 m_10 m_20 m_30 m_40 m_50 m_60 m_70:Int} {m_80:(List TEntry)} {m_90 zd zh:Int} {ze:(List Int)} {zi:(List Bool)} {zc zj:(List Int)} {zk:(List TMsg)},rec0 to0 m_00 m_10 m_20 m_30 m_40 m_50 m_60 m_70 m_80 m_90 zd zh ze zi zc zj zk=some r→LWp Pg 24 6 i50_L0 ⟨[(0,.ptr 0 0),(1,.fn (.func 51) [.ptr 0 0] []),(4,.int .i64 to0),(11,.bad),(20,.bad)],[],(hp86 m_00 m_10 m_20 m_30 m_40 m_50 m_60 m_70 m_80 m_90 ze zi zc zj zd zh zk),7⟩ (blockQ 0 (qf_50_v4 r))
theorem zjm{to0 zbk zbl zbm zbn zbo zbp zbq zbr:Int}{zbs:(List TEntry)}{zbt zam zan:Int}{zao:(List Int)}{zap:(List Bool)}{zw zaq:(List Int)}{zar:(List TMsg)}{r:Tmember}{zt:Int→Int→Int→Int→Int→Int→Int→Int→Int→(List TEntry)→Int→Int→Int→(List Int)→(List Bool)→(List Int)→(List Int)→(List TMsg)→Option Tmember}(zdp:zha zt r)(h:zfm zt to0 zbk zbl zbm zbn zbo zbp zbq zbr zbs zbt zam zan zao zap zw zaq zar=some r):Wp Pg 24 6 (.reg none i50_R4) ⟨[(0,.ptr 0 0),(1,.fn (.func 51) [.ptr 0 0] []),(4,.int .i64 to0),(11,.bad),(20,.bad)],[],(hp86 zbk zbl zbm zbn zbo zbp zbq zbr zbs zbt zao zap zw zaq zam zan zar),7⟩ (loopQ Pg 24 6 i50_L0 (blockQ 0 (qf_50_v4 r))):=by
  unfold zfm at h
  refine regP (loopN ?_)
  exact jumpL [] (zdp h)
theorem zlu {r:Tmember} {zt:Int→Int→Int→Int→Int→Int→Int→Int→Int→(List TEntry)→Int→Int→Int→(List Int)→(List Bool)→(List Int)→(List Int)→(List TMsg)→Option Tmember}(zdp:zha zt r){to0 m_00 m_10 m_20 m_30 m_40 m_50 m_60 m_70:Int}{m_80:(List TEntry)}{m_90 zd zh:Int}{ze:(List Int)}{zi:(List Bool)}{zc zj:(List Int)}{zk:(List TMsg)}(h:zgt zt to0 m_00 m_10 m_20 m_30 m_40 m_50 m_60 m_70 m_80 m_90 zd zh ze zi zc zj zk=some r):LWp Pg 24 6 i50_L0 ⟨[(0,.ptr 0 0),(1,.fn (.func 51) [.ptr 0 0] []),(4,.int .i64 to0),(11,.bad),(20,.bad)],[],(hp86 m_00 m_10 m_20 m_30 m_40 m_50 m_60 m_70 m_80 m_90 ze zi zc zj zd zh zk),7⟩ (blockQ 0 (qf_50_v4 r)):=by
  unfold zgt at h
  refine LWp.stepC i50_L0.eq_1 ?_
  refine Wp.seq (Wp.seq (regP (seqN ?_)))
  replace h:=ifS h; rcases h with ⟨g1,h⟩ | ⟨g1,h⟩
  ·refine condTP (Wp.skip (seqN (Wp.seq (Wp.block (Wp.seq ?_)))))
   refine regP (seqN ?_)
   replace h:=ifS h; rcases h with ⟨g2,h⟩ | ⟨g2,h⟩
   ·refine condTP (Wp.reg ?_)
    replace h:=bndS h; obtain ⟨r0,g3,h⟩:=h
    refine lastF (tab_cons (zhp g3) (tab_nil _)) (blockN (seqN ?_))
    exact jumpK [.kill [11,20],.tidy] (zjm zdp h)
   ·refine condFP (Wp.skip (blockN (seqN ?_)))
    exact jumpK [.kill [11,20]] (zjm zdp h)
  ·replace h:=retS h; subst h
   refine condFP (Wp.out (seqO (loopO (blockO ?_))))
   exact finW [.kill [0,1,4,11],.tidy]
theorem zmk {r:Tmember}:∀ (n:Nat),zha (zce n) r:=by
  intro n
  induction n with
  | zero=>intro to0 m_00 m_10 m_20 m_30 m_40 m_50 m_60 m_70 m_80 m_90 zd zh ze zi zc zj zk h; unfold zce at h; cases h
  | succ n ih=>intro to0 m_00 m_10 m_20 m_30 m_40 m_50 m_60 m_70 m_80 m_90 zd zh ze zi zc zj zk h; unfold zce at h; exact zlu ih h
theorem znn{m:Tmember}{r:Tmember} (h:zfa m=some r):Spec Pg 50 [.ptr 0 0,.fn (.func 51) [.ptr 0 0] []] (hp99 m.Raft.Id m.Raft.N m.Raft.Term m.Raft.Vote m.Raft.Role m.Raft.Lead m.Raft.Log.Base m.Raft.Log.BaseTerm m.Raft.Log.Entries m.Raft.Commit m.Raft.Snap m.Raft.Granted m.Raft.Next m.Raft.Match m.Raft.Clock m.Raft.Wait m.f_out) 6 (.tup []) (hp86 r.Raft.Id r.Raft.N r.Raft.Term r.Raft.Vote r.Raft.Role r.Raft.Lead r.Raft.Log.Base r.Raft.Log.BaseTerm r.Raft.Log.Entries r.Raft.Commit r.Raft.Snap r.Raft.Granted r.Raft.Next r.Raft.Match r.Raft.Clock r.Raft.Wait r.f_out) 7:=by
  refine Spec.intro Go.Proofs.Try.func50 i50_ok (le_of_ble rfl) ?_
  show Wp Pg 24 6 i50_B ⟨argEnv _ i50_V,[],_,_⟩ (qf_50_v4 r)
  unfold zfa at h
  unfold i50_B
  refine weakP [.movc 0 16] ?_
  refine Wp.seq (regP (seqN (Wp.block (Wp.loop ?_))))
  exact jumpL [.kill [11,20],.tidy] (zmk _ h)
noncomputable abbrev qf_51_v0(r:Tmember):Ex→St→Prop:=FinQ 7 [] (.tup []) (hp44 r.Raft.Id r.Raft.N r.Raft.Term r.Raft.Vote r.Raft.Role r.Raft.Lead r.Raft.Log.Base r.Raft.Log.BaseTerm r.Raft.Log.Entries r.Raft.Commit r.Raft.Snap r.Raft.Granted r.Raft.Next r.Raft.Match r.Raft.Clock r.Raft.Wait r.f_out) 8
theorem zkc{to0:Int}{m:Tmember}{x_0 x_5 x_6:Int}{x_9:(List TEntry)}{x_10:(List Int)}{r:Tmember} (h:zga to0 m x_0 x_5 x_6 x_9 x_10=some r):Wp Pg 84 7 (.reg none i51_R7) ⟨[(0,.ptr 0 0),(1,.int .i64 to0),(4,.bad),(5,.ptr 8 0),(33,.bad)],[],(hp38 m.Raft.Id m.Raft.N m.Raft.Term m.Raft.Vote m.Raft.Role m.Raft.Lead m.Raft.Log.Base m.Raft.Log.BaseTerm m.Raft.Log.Entries m.Raft.Commit m.Raft.Snap m.Raft.Granted m.Raft.Next m.Raft.Match m.Raft.Clock m.Raft.Wait m.f_out x_0 (0:Int) (0:Int) (0:Int) m.Raft.Term x_5 x_6 m.Raft.Commit x_9 x_10 m.Raft.Log.Entries),10⟩ (qf_51_v0 r):=by
  unfold zga at h
  refine Wp.reg ?_
  replace h:=bndS h; obtain ⟨r0_2,g6,h⟩:=h
  replace h:=retS h; subst h
  refine lastF (tab_cons (zkz g6) (tab_nil _)) ?_
  exact finW [.kill [0,1,5],.drop [1],.tidy]
theorem zok{to0:Int}{m:Tmember}{r:Tmember} (h:zen to0 m=some r):Spec Pg 51 [.ptr 0 0,.int .i64 to0] (hp15 m.Raft.Id m.Raft.N m.Raft.Term m.Raft.Vote m.Raft.Role m.Raft.Lead m.Raft.Log.Base m.Raft.Log.BaseTerm m.Raft.Log.Entries m.Raft.Commit m.Raft.Snap m.Raft.Granted m.Raft.Next m.Raft.Match m.Raft.Clock m.Raft.Wait m.f_out) 7 (.tup []) (hp44 r.Raft.Id r.Raft.N r.Raft.Term r.Raft.Vote r.Raft.Role r.Raft.Lead r.Raft.Log.Base r.Raft.Log.BaseTerm r.Raft.Log.Entries r.Raft.Commit r.Raft.Snap r.Raft.Granted r.Raft.Next r.Raft.Match r.Raft.Clock r.Raft.Wait r.f_out) 8:=by
  refine Spec.intro Go.Proofs.Try.func51 i51_ok (le_of_ble rfl) ?_
  show Wp Pg 84 7 i51_B ⟨argEnv _ i51_V,[],_,_⟩ (qf_51_v0 r)
  unfold zen at h
  unfold i51_B
  refine weakP [.movc 0 16] ?_
  refine Wp.seq ?_
  replace h:=bndS h; obtain ⟨e,g1,h⟩:=h
  have:=ias_ownL (n:=1) (id:=4) (ex:=false) (k:=.i64) g1 rfl
  have:=ld_get (c:=(ci .i64)) g1
  refine regP (seqN (Wp.seq ?_))
  refine drawP [] mixed (clsN _) (seqN (Wp.seq (Wp.seq ?_)))
  refine regP (seqN ?_)
  replace h:=ifS h; rcases h with ⟨g2,h⟩ | ⟨g2,h⟩
  ·refine condTP ?_
   replace h:=reqS h; obtain ⟨g3,h⟩:=h
   refine drawP [] mixed (clsN _) (seqN ?_)
   exact jumpK [.kill [4,33],.cell 5 9 .frz,.cell 0 8 .frz,.tidy] (zkc h)
  ·refine condFP (Wp.seq ?_)
   refine regP (seqN (Wp.seq ?_))
   replace h:=bndS h; obtain ⟨r0,g4,h⟩:=h
   refine drawP [] mixed (clsC 7 (tab_cons (zcl g4) (tab_nil _)) (clsN _)) (seqN (Wp.reg ?_))
   replace h:=bndS h; obtain ⟨r0_1,g5,h⟩:=h
   refine chunkT 7 (tab_cons (zoq g5) (tab_nil _)) ?_
   refine lastT (tab_nil _) (seqN ?_)
   exact jumpK [.kill [4,33],.cell 5 10 (.virt 1),.cell 0 8 .frz,.tidy] (zkc h)
noncomputable abbrev qf_66_v0(r:Tmember):Ex→St→Prop:=FinQ 7 [] (.tup []) (zqu r.Raft.Id r.Raft.N r.Raft.Term r.Raft.Vote r.Raft.Role r.Raft.Lead r.Raft.Log.Base r.Raft.Log.BaseTerm r.Raft.Log.Entries r.Raft.Commit r.Raft.Snap r.Raft.Granted r.Raft.Next r.Raft.Match r.Raft.Clock r.Raft.Wait r.f_out) 10
theorem zjn{lead:Int}{m:Tmember}{m_20 m_30:Int}{r:Tmember} (h:zdq lead m m_20 m_30=some r):Wp Pg 43 7 (.seq (.reg none i66_R2) (.reg none i66_R3)) ⟨[(0,.ptr 0 0),(1,.bad),(2,.int .i64 lead),(12,.bad)],[],(hp15 m.Raft.Id m.Raft.N m_20 m_30 m.Raft.Role m.Raft.Lead m.Raft.Log.Base m.Raft.Log.BaseTerm m.Raft.Log.Entries m.Raft.Commit m.Raft.Snap m.Raft.Granted m.Raft.Next m.Raft.Match m.Raft.Clock m.Raft.Wait m.f_out),7⟩ (qf_66_v0 r):=by
  unfold zdq at h
  replace h:=retS h; subst h
  refine Wp.seq (regP (seqN ?_))
  refine regP ?_
  exact finW [.cell 0 11 (.virt 1),.cell 0 12 (.virt 1),.cell 0 13 (.virt 1),.kill [0,2],.drop [3,4,5],.tidy]
theorem zeh{term:Int}{lead:Int}{m:Tmember}{r:Tmember} (h:zaj term lead m=some r):Spec Pg 66 [.ptr 0 0,.int .i64 term,.int .i64 lead] (hp15 m.Raft.Id m.Raft.N m.Raft.Term m.Raft.Vote m.Raft.Role m.Raft.Lead m.Raft.Log.Base m.Raft.Log.BaseTerm m.Raft.Log.Entries m.Raft.Commit m.Raft.Snap m.Raft.Granted m.Raft.Next m.Raft.Match m.Raft.Clock m.Raft.Wait m.f_out) 7 (.tup []) (zqu r.Raft.Id r.Raft.N r.Raft.Term r.Raft.Vote r.Raft.Role r.Raft.Lead r.Raft.Log.Base r.Raft.Log.BaseTerm r.Raft.Log.Entries r.Raft.Commit r.Raft.Snap r.Raft.Granted r.Raft.Next r.Raft.Match r.Raft.Clock r.Raft.Wait r.f_out) 10:=by
  refine Spec.intro Go.Proofs.Try.func66 i66_ok (le_of_ble rfl) ?_
  show Wp Pg 43 7 i66_B ⟨argEnv _ i66_V,[],_,_⟩ (qf_66_v0 r)
  unfold zaj at h
  unfold i66_B
  refine weakP [] ?_
  refine Wp.seq (Wp.seq (regP (seqN ?_)))
  replace h:=ifS h; rcases h with ⟨g1,h⟩ | ⟨g1,h⟩
  ·refine condTP ?_
   refine regP (seqN ?_)
   exact jumpK [.kill [1,12]] (zjn h)
  ·refine condFP (Wp.skip (seqN ?_))
   exact jumpK [.kill [1,12]] (zjn h)
noncomputable abbrev qf_88(r:Int):Ex→St→Prop:=FinQ 0 [.tmp 2] (.int .i64 r) [] 0
theorem zmb{n0:Int}{r:Int} (h:zgb n0=some r):Spec Pg 88 [.int .i64 n0] [] 0 (.int .i64 r) [] 0:=by
  refine Spec.intro Go.Proofs.Try.func88 i88_ok (le_of_ble rfl) ?_
  show Wp Pg 8 0 i88_B ⟨argEnv _ i88_V,[],_,_⟩ (qf_88 r)
  unfold zgb at h
  unfold i88_B
  refine weakP [] ?_
  refine Wp.seq (regP (seqN (Wp.seq (Wp.seq ?_))))
  refine regP (seqN ?_)
  replace h:=ifS h; rcases h with ⟨g1,h⟩ | ⟨g1,h⟩
  ·replace h:=retS h; subst h
   refine condTP (Wp.seq ?_)
   refine regP (seqN (Wp.ret (seqR ?_)))
   exact finP
  ·replace h:=retS h; subst h
   refine condFP (Wp.skip (seqN (Wp.seq ?_)))
   refine regP (seqN (Wp.ret ?_))
   exact finP
noncomputable abbrev qf_82(r:Bool):Ex→St→Prop:=FinQ 0 [.tmp 2] (.bool r) [] 0
noncomputable abbrev zmc(l:(List Bool))(rec0:Int→Int→Option Bool)(r:Bool):Prop:=∀ {n0 v8:Int},rec0 n0 v8=some r→LWp Pg 26 0 i82_L0 ⟨[(0,sl cb l),(2,.bad),(3,.int .i64 n0),(5,.bad),(6,sl cb l),(7,.int .i64 (l.length:Int)),(8,.int .i64 v8),(9,.bad),(12,.bad)],[],[],0⟩ (blockQ 0 (seqQ Pg 26 0 (.seq (.reg none i82_R8) .ret) (qf_82 r)))
theorem zpx{l:(List Bool)}{n0_1:Int}{r:Bool} (h:zjh l n0_1=some r):Wp Pg 26 0 (.seq (.reg none i82_R8) .ret) ⟨[(0,sl cb l),(2,.bad),(3,.int .i64 n0_1),(5,.bad),(6,.bad),(7,.bad),(8,.bad),(9,.bad),(12,.bad)],[],[],0⟩ (qf_82 r):=by
  unfold zjh at h
  refine Wp.seq (Wp.reg ?_)
  replace h:=ifS h; rcases h with ⟨g4,h⟩ | ⟨g4,h⟩
  ·replace h:=bndS h; obtain ⟨r0,g5,h⟩:=h
   replace h:=retS h; subst h
   refine chunkT 8 (tab_cons (zmb g5) (tab_nil _)) ?_
   refine lastT (tab_nil _) (seqN (Wp.ret ?_))
   exact finP
  ·replace h:=retS h; subst h
   refine lastT (tab_nil _) (seqN (Wp.ret ?_))
   exact finP
theorem zos{l:(List Bool)}{r:Bool} {zfo:Int→Int→Option Bool}(zla:zmc l zfo r){n0 v8:Int}(h:zgk l zfo n0 v8=some r):LWp Pg 26 0 i82_L0 ⟨[(0,sl cb l),(2,.bad),(3,.int .i64 n0),(5,.bad),(6,sl cb l),(7,.int .i64 (l.length:Int)),(8,.int .i64 v8),(9,.bad),(12,.bad)],[],[],0⟩ (blockQ 0 (seqQ Pg 26 0 (.seq (.reg none i82_R8) .ret) (qf_82 r))):=by
  unfold zgk at h
  refine LWp.stepC i82_L0.eq_1 ?_
  refine Wp.seq (regP (seqN (Wp.seq ?_)))
  replace h:=ifS h; rcases h with ⟨g1,h⟩ | ⟨g1,h⟩
  ·refine condTP (Wp.skip (seqN (Wp.seq (Wp.block (Wp.seq ?_)))))
   replace h:=bndS h; obtain ⟨e,g2,h⟩:=h
   refine regP (seqN (Wp.seq ?_))
   refine regP (seqN ?_)
   replace h:=ifS h; rcases h with ⟨g3,h⟩ | ⟨g3,h⟩
   ·refine condTP ?_
    refine regP (blockN (seqN ?_))
    refine regP (loopN ?_)
    exact jumpL [.kill [5,9,12]] (zla h)
   ·refine condFP (Wp.skip (blockN (seqN ?_)))
    refine regP (loopN ?_)
    exact jumpL [.kill [5,9,12]] (zla h)
  ·refine condFP (Wp.out (seqO (loopO (blockO (seqN ?_)))))
   exact jumpK [.kill [6,7,8,9]] (zpx h)
theorem zpy{l:(List Bool)}{r:Bool}:∀ (n:Nat),zmc l (zdx l n) r:=by
  intro n
  induction n with
  | zero=>intro n0 v8 h; unfold zdx at h; cases h
  | succ n ih=>intro n0 v8 h; unfold zdx at h; exact zos ih h
theorem zoc{l:(List Bool)}{r:Bool} (h:zig l=some r):Spec Pg 82 [sl cb l] [] 0 (.bool r) [] 0:=by
  refine Spec.intro Go.Proofs.Try.func82 i82_ok (le_of_ble rfl) ?_
  show Wp Pg 26 0 i82_B ⟨argEnv _ i82_V,[],_,_⟩ (qf_82 r)
  unfold zig at h
  unfold i82_B
  refine weakP [] ?_
  refine Wp.seq (regP (seqN (Wp.seq ?_)))
  refine regP (seqN (Wp.seq (Wp.seq ?_)))
  refine regP (seqN (Wp.block (Wp.loop ?_)))
  exact jumpL [.kill [2,5,9,12]] (zpy _ h)
noncomputable abbrev qf_68_v0(r:(Bool × Tmember)):Ex→St→Prop:=FinQ 7 [.tmp 4] (.bool r.1) (hp65 r.2.Raft.Id r.2.Raft.N r.2.Raft.Term r.2.Raft.Vote r.2.Raft.Role r.2.Raft.Lead r.2.Raft.Log.Base r.2.Raft.Log.BaseTerm r.2.Raft.Log.Entries r.2.Raft.Commit r.2.Raft.Snap r.2.Raft.Granted r.2.Raft.Next r.2.Raft.Match r.2.Raft.Clock r.2.Raft.Wait r.2.f_out) 7
theorem zip{who:Int}{m:Tmember}{r:(Bool × Tmember)} (h:zbh who m=some r):Spec Pg 68 [.ptr 0 0,.int .i64 who] (hp65 m.Raft.Id m.Raft.N m.Raft.Term m.Raft.Vote m.Raft.Role m.Raft.Lead m.Raft.Log.Base m.Raft.Log.BaseTerm m.Raft.Log.Entries m.Raft.Commit m.Raft.Snap m.Raft.Granted m.Raft.Next m.Raft.Match m.Raft.Clock m.Raft.Wait m.f_out) 7 (.bool r.1) (hp65 r.2.Raft.Id r.2.Raft.N r.2.Raft.Term r.2.Raft.Vote r.2.Raft.Role r.2.Raft.Lead r.2.Raft.Log.Base r.2.Raft.Log.BaseTerm r.2.Raft.Log.Entries r.2.Raft.Commit r.2.Raft.Snap r.2.Raft.Granted r.2.Raft.Next r.2.Raft.Match r.2.Raft.Clock r.2.Raft.Wait r.2.f_out) 7:=by
  refine Spec.intro Go.Proofs.Try.func68 i68_ok (le_of_ble rfl) ?_
  show Wp Pg 19 7 i68_B ⟨argEnv _ i68_V,[],_,_⟩ (qf_68_v0 r)
  unfold zbh at h
  unfold i68_B
  refine weakP [] ?_
  refine Wp.seq (regP (seqN (Wp.seq ?_)))
  replace h:=bndS h; obtain ⟨e,g1,h⟩:=h
  have:=ias_ownL (n:=1) (id:=3) (ex:=true) (k:=.i64) g1 rfl
  have:=ld_get (c:=cb) g1
  have:=set_get cb m.Raft.Granted (IntKind.i64.wrap (who - (1:Int))) true
  try simp only [EV,EVt, *] at this
  refine regP (seqN (Wp.seq (Wp.reg ?_)))
  replace h:=bndS h; obtain ⟨r0,g2,h⟩:=h
  replace h:=retS h; subst h
  refine chunkT 6 (tab_cons (zoc g2) (tab_nil _)) ?_
  refine lastT (tab_nil _) (seqN (Wp.ret ?_))
  exact finW [.kill [0,1],.tidy]
noncomputable abbrev qf_66_v1(r:Tmember):Ex→St→Prop:=FinQ 7 [] (.tup []) (zqu r.Raft.Id r.Raft.N r.Raft.Term r.Raft.Vote r.Raft.Role r.Raft.Lead r.Raft.Log.Base r.Raft.Log.BaseTerm r.Raft.Log.Entries r.Raft.Commit r.Raft.Snap r.Raft.Granted r.Raft.Next r.Raft.Match r.Raft.Clock r.Raft.Wait r.f_out) 10
theorem ziq{lead:Int}{m:Tmember}{m_20 m_30:Int}{r:Tmember} (h:zel lead m m_20 m_30=some r):Wp Pg 43 7 (.seq (.reg none i66_R2) (.reg none i66_R3)) ⟨[(0,.ptr 0 0),(1,.bad),(2,.int .i64 lead),(12,.bad)],[],(hp65 m.Raft.Id m.Raft.N m_20 m_30 m.Raft.Role m.Raft.Lead m.Raft.Log.Base m.Raft.Log.BaseTerm m.Raft.Log.Entries m.Raft.Commit m.Raft.Snap m.Raft.Granted m.Raft.Next m.Raft.Match m.Raft.Clock m.Raft.Wait m.f_out),7⟩ (qf_66_v1 r):=by
  unfold zel at h
  replace h:=retS h; subst h
  refine Wp.seq (regP (seqN ?_))
  refine regP ?_
  exact finW [.cell 0 11 (.virt 1),.cell 0 12 (.virt 1),.cell 0 13 (.virt 1),.kill [0,2],.drop [3,4,5],.tidy]
theorem zjo{term:Int}{lead:Int}{m:Tmember}{r:Tmember} (h:zcf term lead m=some r):Spec Pg 66 [.ptr 0 0,.int .i64 term,.int .i64 lead] (hp65 m.Raft.Id m.Raft.N m.Raft.Term m.Raft.Vote m.Raft.Role m.Raft.Lead m.Raft.Log.Base m.Raft.Log.BaseTerm m.Raft.Log.Entries m.Raft.Commit m.Raft.Snap m.Raft.Granted m.Raft.Next m.Raft.Match m.Raft.Clock m.Raft.Wait m.f_out) 7 (.tup []) (zqu r.Raft.Id r.Raft.N r.Raft.Term r.Raft.Vote r.Raft.Role r.Raft.Lead r.Raft.Log.Base r.Raft.Log.BaseTerm r.Raft.Log.Entries r.Raft.Commit r.Raft.Snap r.Raft.Granted r.Raft.Next r.Raft.Match r.Raft.Clock r.Raft.Wait r.f_out) 10:=by
  refine Spec.intro Go.Proofs.Try.func66 i66_ok (le_of_ble rfl) ?_
  show Wp Pg 43 7 i66_B ⟨argEnv _ i66_V,[],_,_⟩ (qf_66_v1 r)
  unfold zcf at h
  unfold i66_B
  refine weakP [] ?_
  refine Wp.seq (Wp.seq (regP (seqN ?_)))
  replace h:=ifS h; rcases h with ⟨g1,h⟩ | ⟨g1,h⟩
  ·refine condTP ?_
   refine regP (seqN ?_)
   exact jumpK [.kill [1,12]] (ziq h)
  ·refine condFP (Wp.skip (seqN ?_))
   exact jumpK [.kill [1,12]] (ziq h)
noncomputable abbrev qf_109(r:Bool):Ex→St→Prop:=FinQ 0 [.tmp 2] (.bool r) [] 0
theorem zmd{x0:Int}{r:Bool} (h:zhu x0=some r):Spec Pg 109 [.int .i64 x0] [] 0 (.bool r) [] 0:=by
  refine Spec.intro Go.Proofs.Try.func109 i109_ok (le_of_ble rfl) ?_
  show Wp Pg 6 0 i109_B ⟨argEnv _ i109_V,[],_,_⟩ (qf_109 r)
  unfold zhu at h
  unfold i109_B
  refine weakP [] ?_
  replace h:=retS h; subst h
  refine Wp.seq (regP (seqN (Wp.seq ?_)))
  refine regP (seqN (Wp.ret ?_))
  exact finP
noncomputable abbrev qf_99_v0(r:Bool):Ex→St→Prop:=FinQ 0 [.tmp 4] (.bool r) [] 0
theorem zqd{x0:Int}{y:Int}{r:Bool} (h:zih x0 y=some r):Spec Pg 99 [.int .i64 x0,.int .i64 y] [] 0 (.bool r) [] 0:=by
  refine Spec.intro Go.Proofs.Try.func99 i99_ok (le_of_ble rfl) ?_
  show Wp Pg 17 0 i99_B ⟨argEnv _ i99_V,[],_,_⟩ (qf_99_v0 r)
  unfold zih at h
  unfold i99_B
  refine weakP [] ?_
  refine Wp.seq (regP (seqN (Wp.seq (Wp.reg ?_))))
  replace h:=bndS h; obtain ⟨r0,g1,h⟩:=h
  refine chunkT 2 (tab_cons (zmd g1) (tab_nil _)) ?_
  replace h:=ifS h; rcases h with ⟨g2,h⟩ | ⟨g2,h⟩
  ·replace h:=bndS h; obtain ⟨r0_1,g3,h⟩:=h
   refine chunkT 3 (tab_cons (zmd g3) (tab_nil _)) ?_
   replace h:=ifS h; rcases h with ⟨g4,h⟩ | ⟨g4,h⟩
   ·replace h:=retS h; subst h
    refine lastT (tab_nil _) (seqN (Wp.ret ?_))
    exact finW [.kill [0,1],.tidy]
   ·replace h:=retS h; subst h
    refine lastT (tab_nil _) (seqN (Wp.ret ?_))
    exact finW [.kill [0,1],.tidy]
  ·replace h:=retS h; subst h
   refine lastT (tab_nil _) (seqN (Wp.ret ?_))
   exact finW [.kill [0,1],.tidy]
noncomputable abbrev qf_93_v0(r:(List Int)):Ex→St→Prop:=FinQ 1 [] (.tup []) [(0,.arr 1 (List.map (ci .i64) r) 0)] 1
noncomputable abbrev zx(a b:Int)(rec0:Int→(List Int)→Option (List Int))(r:(List Int)):Prop:=∀ {i:Int} {data_1:(List Int)},rec0 i data_1=some r→LWp Pg 49 1 i93_L1 ⟨[(0,.own 1 0 0 data_1.length false),(1,.int .i64 a),(2,.int .i64 b),(6,.int .i64 i),(7,.bad),(12,.bad),(30,.bad)],[],[(0,.arr 1 (List.map (ci .i64) data_1) 0)],1⟩ (blockQ 0 (qf_93_v0 r))
noncomputable abbrev zcq(a b i:Int)(rec0:Int→(List Int)→Option (List Int))(r:(List Int)):Prop:=∀ {j:Int} {data_2:(List Int)},rec0 j data_2=some r→LWp Pg 49 1 i93_L0 ⟨[(0,.own 1 0 0 data_2.length false),(1,.int .i64 a),(2,.int .i64 b),(6,.int .i64 i),(7,.int .i64 j),(12,.bad),(30,.bad)],[],[(0,.arr 1 (List.map (ci .i64) data_2) 0)],1⟩ (blockQ 2 (blockQ 1 (seqQ Pg 49 1 (.reg none i93_R6) (loopQ Pg 49 1 i93_L1 (blockQ 0 (qf_93_v0 r))))))
theorem zje{a b i:Int}{data_3:(List Int)}{r:(List Int)}{za:Int→(List Int)→Option (List Int)}(zl:zx a b za r)(h:zas za i data_3=some r):Wp Pg 49 1 (.reg none i93_R6) ⟨[(0,.own 1 0 0 data_3.length false),(1,.int .i64 a),(2,.int .i64 b),(6,.int .i64 i),(7,.bad),(12,.bad),(30,.bad)],[],[(0,.arr 1 (List.map (ci .i64) data_3) 0)],1⟩ (loopQ Pg 49 1 i93_L1 (blockQ 0 (qf_93_v0 r))):=by
  unfold zas at h
  refine regP (loopN ?_)
  exact jumpL [] (zl h)
theorem zfq{a b i j:Int}{data_2:(List Int)}{v30:Bool}{r:(List Int)}{zm:Int→(List Int)→Option (List Int)}{za:Int→(List Int)→Option (List Int)}(zax:zcq a b i zm r)(zl:zx a b za r)(h:zab zm za i j data_2 v30=some r):Wp Pg 49 1 (.cond (.t 30) .skip (.out 2)) ⟨[(0,.own 1 0 0 data_2.length false),(1,.int .i64 a),(2,.int .i64 b),(6,.int .i64 i),(7,.int .i64 j),(12,.bad),(30,.bool v30)],[],[(0,.arr 1 (List.map (ci .i64) data_2) 0)],1⟩ (seqQ Pg 49 1 (.seq (.block 3 (.reg (some []) i93_R4)) (.reg none i93_R5)) (loopQ Pg 49 1 i93_L0 (blockQ 2 (blockQ 1 (seqQ Pg 49 1 (.reg none i93_R6) (loopQ Pg 49 1 i93_L1 (blockQ 0 (qf_93_v0 r)))))))):=by
  unfold zab at h
  replace h:=ifS h; rcases h with ⟨g6,h⟩ | ⟨g6,h⟩
  ·refine condTP (Wp.skip (seqN (Wp.seq (Wp.block ?_))))
   replace h:=bndS h; obtain ⟨e_2,g7,h⟩:=h
   replace h:=bndS h; obtain ⟨e_3,g8,h⟩:=h
   replace h:=bndS h; obtain ⟨e_4,g9,h⟩:=h
   have:=ias_ownL (n:=1) (id:=0) (ex:=false) (k:=.i64) g7 rfl
   have:=ld_get (c:=(ci .i64)) g7
   have:=ias_ownL (n:=1) (id:=0) (ex:=false) (k:=.i64) g8 rfl
   have:=ld_get (c:=(ci .i64)) g8
   have:=set_get (ci .i64) data_2 j e_2
   try simp only [EV,EVt, *] at this
   have:=ias_ownL (n:=1) (id:=0) (ex:=false) (k:=.i64) g9 rfl
   try simp only [EV,EVt, *] at this
   have:=ld_get (c:=(ci .i64)) g9
   try simp only [EV,EVt, *] at this
   have:=set_get (ci .i64) (setI data_2 j e_2) (IntKind.i64.wrap (j - (1:Int))) e_3
   try simp only [EV,EVt, *] at this
   refine drawP [] mixed (clsN _) (blockN (seqN ?_))
   refine regP (loopN ?_)
   exact jumpL [.kill [30],.tidy] (zax h)
  ·refine condFP (Wp.out (seqO (loopO (blockO (blockN (seqN ?_))))))
   exact jumpK [.kill [7,30]] (zje (a:=a) (b:=b) zl h)
theorem ziu{b a i:Int}{r:(List Int)}{za:Int→(List Int)→Option (List Int)}(zl:zx a b za r){zm:Int→(List Int)→Option (List Int)}(zax:zcq a b i zm r){j:Int}{data_2:(List Int)}(h:zaf za a i zm j data_2=some r):LWp Pg 49 1 i93_L0 ⟨[(0,.own 1 0 0 data_2.length false),(1,.int .i64 a),(2,.int .i64 b),(6,.int .i64 i),(7,.int .i64 j),(12,.bad),(30,.bad)],[],[(0,.arr 1 (List.map (ci .i64) data_2) 0)],1⟩ (blockQ 2 (blockQ 1 (seqQ Pg 49 1 (.reg none i93_R6) (loopQ Pg 49 1 i93_L1 (blockQ 0 (qf_93_v0 r)))))):=by
  unfold zaf at h
  refine LWp.stepC i93_L0.eq_1 ?_
  refine Wp.seq (Wp.seq ?_)
  replace h:=ifS h; rcases h with ⟨g2,h⟩ | ⟨g2,h⟩
  ·replace h:=bndS h; obtain ⟨e,g3,h⟩:=h
   replace h:=bndS h; obtain ⟨e_1,g4,h⟩:=h
   replace h:=bndS h; obtain ⟨r0,g5,h⟩:=h
   have:=ias_ownL (n:=1) (id:=0) (ex:=false) (k:=.i64) g3 rfl
   have:=ld_get (c:=(ci .i64)) g3
   have:=ias_ownL (n:=1) (id:=0) (ex:=false) (k:=.i64) g4 rfl
   have:=ld_get (c:=(ci .i64)) g4
   refine drawP [99] mixed (clsC 13 (tab_cons (zqd g5) (tab_nil _)) (clsN _)) (seqN ?_)
   exact jumpK [.tidy] (zfq (a:=a) (b:=b) zax zl h)
  ·refine drawP [] mixed (clsN _) (seqN ?_)
   exact jumpK [.tidy] (zfq (a:=a) (b:=b) zax zl h)
theorem zjf{b a i:Int}{r:(List Int)}{za:Int→(List Int)→Option (List Int)}(zl:zx a b za r):∀ (n:Nat),zcq a b i (zo za a i n) r:=by
  intro n
  induction n with
  | zero=>intro j data_2 h; unfold zo at h; cases h
  | succ n ih=>intro j data_2 h; unfold zo at h; exact ziu (b:=b) zl ih h
theorem ziv{a b:Int}{r:(List Int)} {za:Int→(List Int)→Option (List Int)}(zl:zx a b za r){i:Int}{data_1:(List Int)}(h:zag a b za i data_1=some r):LWp Pg 49 1 i93_L1 ⟨[(0,.own 1 0 0 data_1.length false),(1,.int .i64 a),(2,.int .i64 b),(6,.int .i64 i),(7,.bad),(12,.bad),(30,.bad)],[],[(0,.arr 1 (List.map (ci .i64) data_1) 0)],1⟩ (blockQ 0 (qf_93_v0 r)):=by
  unfold zag at h
  refine LWp.stepC i93_L1.eq_1 ?_
  refine Wp.seq (Wp.seq (regP (seqN ?_)))
  replace h:=ifS h; rcases h with ⟨g1,h⟩ | ⟨g1,h⟩
  ·refine condTP (Wp.skip (seqN (Wp.seq (Wp.block (Wp.seq ?_)))))
   refine regP (seqN (Wp.block (Wp.loop ?_)))
   exact jumpL [.kill [12]] (zjf (b:=b) zl _ h)
  ·replace h:=retS h; subst h
   refine condFP (Wp.out (seqO (loopO (blockO ?_))))
   exact finW [.kill [0,1,2,6,12],.tidy]
theorem zjg{a b:Int}{r:(List Int)}:∀ (n:Nat),zx a b (zn a b n) r:=by
  intro n
  induction n with
  | zero=>intro i data_1 h; unfold zn at h; cases h
  | succ n ih=>intro i data_1 h; unfold zn at h; exact ziv ih h
theorem zka{data:(List Int)}{a:Int}{b:Int}{r:(List Int)} (h:zbe data a b=some r):Spec Pg 93 [.own 1 0 0 data.length false,.int .i64 a,.int .i64 b] [(0,.arr 1 (List.map (ci .i64) data) 0)] 1 (.tup []) [(0,.arr 1 (List.map (ci .i64) r) 0)] 1:=by
  refine Spec.intro Go.Proofs.Try.func93 i93_ok (le_of_ble rfl) ?_
  show Wp Pg 49 1 i93_B ⟨argEnv _ i93_V,[],_,_⟩ (qf_93_v0 r)
  unfold zbe at h
  unfold i93_B
  refine weakP [] ?_
  refine Wp.seq (regP (seqN (Wp.block (Wp.loop ?_))))
  exact jumpL [.kill [7,12,30]] (zjg _ h)
noncomputable abbrev qf_91_v0(r:(List Int)):Ex→St→Prop:=FinQ 1 [] (.tup []) [(0,.arr 1 (List.map (ci .i64) r) 0)] 1
noncomputable abbrev zhj(data:(List Int))(a b limit:Int)(rec0:Option (List Int))(r:(List Int)):Prop:=rec0=some r→LWp Pg 134 1 i91_L0 ⟨[(0,.own 1 0 0 data.length false),(1,.int .i64 a),(2,.int .i64 b),(3,.int .i64 limit),(8,.bool true),(9,.bool true),(10,.bad),(11,.bad),(12,.bad),(13,.bad),(14,.bad),(15,.bad),(16,.bad),(17,.bad),(18,.bad),(23,.bad),(29,.bad),(35,.bad),(50,.bad),(68,.bad),(72,.bad),(87,.bad),(113,.bad)],[],[(0,.arr 1 (List.map (ci .i64) data) 0)],1⟩ (blockQ 0 (qf_91_v0 r))
theorem zkk{data:(List Int)}{a b limit:Int}{r:(List Int)} {zdu:Option (List Int)}(zpv:zhj data a b limit zdu r) (h:zci data a b limit zdu=some r):LWp Pg 134 1 i91_L0 ⟨[(0,.own 1 0 0 data.length false),(1,.int .i64 a),(2,.int .i64 b),(3,.int .i64 limit),(8,.bool true),(9,.bool true),(10,.bad),(11,.bad),(12,.bad),(13,.bad),(14,.bad),(15,.bad),(16,.bad),(17,.bad),(18,.bad),(23,.bad),(29,.bad),(35,.bad),(50,.bad),(68,.bad),(72,.bad),(87,.bad),(113,.bad)],[],[(0,.arr 1 (List.map (ci .i64) data) 0)],1⟩ (blockQ 0 (qf_91_v0 r)):=by
  unfold zci at h
  refine LWp.stepC i91_L0.eq_1 ?_
  refine Wp.block (Wp.seq (regP (seqN (Wp.seq (Wp.seq ?_)))))
  refine regP (seqN ?_)
  replace h:=ifS h; rcases h with ⟨g1,h⟩ | ⟨g1,h⟩
  ·refine condTP (Wp.seq (Wp.reg ?_))
   replace h:=bndS h; obtain ⟨r0,g2,h⟩:=h
   replace h:=reqS h; obtain ⟨g3,h⟩:=h
   replace h:=retS h; subst h
   have:=of_decide_eq_true g3
   refine lastF (tab_cons (zka g2) (tab_nil _)) (seqN (Wp.ret (seqR (blockR (loopR (blockR ?_))))))
   exact finW [.kill [0,1,2,3,8,9,10,23],.tidy]
  ·refine condFP (Wp.skip (seqN (Wp.seq (Wp.seq ?_))))
   refine regP (seqN ?_)
   replace h:=reqF h; obtain ⟨g4,h⟩:=h
   refine condFP (Wp.skip (seqN (Wp.seq (Wp.seq ?_))))
   refine regP (seqN ?_)
   refine condFP (Wp.skip (seqN ?_))
   cases h
theorem zkv{data:(List Int)}{a b limit:Int}{r:(List Int)}:∀ (n:Nat),zhj data a b limit (zac data a b limit n) r:=by
  intro n
  induction n with
  | zero=>intro h; unfold zac at h; cases h
  | succ n ih=>intro h; unfold zac at h; exact zkk ih h
theorem zlh{data:(List Int)}{a:Int}{b:Int}{limit:Int}{r:(List Int)} (h:zdy data a b limit=some r):Spec Pg 91 [.own 1 0 0 data.length false,.int .i64 a,.int .i64 b,.int .i64 limit] [(0,.arr 1 (List.map (ci .i64) data) 0)] 1 (.tup []) [(0,.arr 1 (List.map (ci .i64) r) 0)] 1:=by
  refine Spec.intro Go.Proofs.Try.func91 i91_ok (le_of_ble rfl) ?_
  show Wp Pg 134 1 i91_B ⟨argEnv _ i91_V,[],_,_⟩ (qf_91_v0 r)
  unfold zdy at h
  unfold i91_B
  refine weakP [] ?_
  refine Wp.seq (regP (seqN (Wp.seq ?_)))
  refine regP (seqN (Wp.block (Wp.loop ?_)))
  exact jumpL [.kill [10,11,12,13,14,15,16,17,18,23,29,35,50,68,72,87,113]] (zkv _ h)
noncomputable abbrev qf_103(r:Int):Ex→St→Prop:=FinQ 0 [.tmp 2] (.int .i64 r) [] 0
theorem zkq{x0_3 n0_2:Int}{r:Int} (h:zfb x0_3 n0_2=some r):Wp Pg 25 0 (.seq (.reg none i103_R10) .ret) ⟨[(0,.int .u64 x0_3),(2,.int .i64 n0_2),(4,.bad),(8,.bad),(14,.bad)],[],[],0⟩ (qf_103 r):=by
  unfold zfb at h
  refine Wp.seq ?_
  replace h:=bndS h; obtain ⟨c,g4,h⟩:=h
  replace h:=retS h; subst h
  refine regP (seqN (Wp.ret ?_))
  exact finP
theorem zkr{x0_2 n0_1:Int}{r:Int} (h:zfc x0_2 n0_1=some r):Wp Pg 25 0 (.seq (.seq (.reg none i103_R7) (.cond (.t 14) (.seq (.reg none i103_R8) (.reg none i103_R9)) .skip)) (.seq (.reg none i103_R10) .ret)) ⟨[(0,.int .u64 x0_2),(2,.int .i64 n0_1),(4,.bad),(8,.bad),(14,.bad)],[],[],0⟩ (qf_103 r):=by
  unfold zfc at h
  refine Wp.seq (Wp.seq (regP (seqN ?_)))
  replace h:=ifS h; rcases h with ⟨g3,h⟩ | ⟨g3,h⟩
  ·refine condTP (Wp.seq ?_)
   refine regP (seqN ?_)
   refine regP (seqN ?_)
   exact jumpK [.kill [14]] (zkq h)
  ·refine condFP (Wp.skip (seqN ?_))
   exact jumpK [.kill [14]] (zkq h)
theorem zks{x0_1 n0:Int}{r:Int} (h:zfd x0_1 n0=some r):Wp Pg 25 0 (.seq (.seq (.reg none i103_R4) (.cond (.t 8) (.seq (.reg none i103_R5) (.reg none i103_R6)) .skip)) (.seq (.seq (.reg none i103_R7) (.cond (.t 14) (.seq (.reg none i103_R8) (.reg none i103_R9)) .skip)) (.seq (.reg none i103_R10) .ret))) ⟨[(0,.int .u64 x0_1),(2,.int .i64 n0),(4,.bad),(8,.bad),(14,.bad)],[],[],0⟩ (qf_103 r):=by
  unfold zfd at h
  refine Wp.seq (Wp.seq (regP (seqN ?_)))
  replace h:=ifS h; rcases h with ⟨g2,h⟩ | ⟨g2,h⟩
  ·refine condTP (Wp.seq ?_)
   refine regP (seqN ?_)
   refine regP (seqN ?_)
   exact jumpK [.kill [8]] (zkr h)
  ·refine condFP (Wp.skip (seqN ?_))
   exact jumpK [.kill [8]] (zkr h)
theorem zot{x0:Int}{r:Int} (h:zib x0=some r):Spec Pg 103 [.int .u64 x0] [] 0 (.int .i64 r) [] 0:=by
  refine Spec.intro Go.Proofs.Try.func103 i103_ok (le_of_ble rfl) ?_
  show Wp Pg 25 0 i103_B ⟨argEnv _ i103_V,[],_,_⟩ (qf_103 r)
  unfold zib at h
  unfold i103_B
  refine weakP [] ?_
  refine Wp.seq (regP (seqN (Wp.seq (Wp.seq ?_))))
  refine regP (seqN ?_)
  replace h:=ifS h; rcases h with ⟨g1,h⟩ | ⟨g1,h⟩
  ·refine condTP (Wp.seq ?_)
   refine regP (seqN ?_)
   refine regP (seqN ?_)
   exact jumpK [.kill [4,8,14]] (zks h)
  ·refine condFP (Wp.skip (seqN ?_))
   exact jumpK [.kill [4,8,14]] (zks h)
noncomputable abbrev qf_92(r:Int):Ex→St→Prop:=FinQ 0 [.tmp 2] (.int .i64 r) [] 0
theorem zpz{x0:Int}{r:Int} (h:zhv x0=some r):Spec Pg 92 [.int .u64 x0] [] 0 (.int .i64 r) [] 0:=by
  refine Spec.intro Go.Proofs.Try.func92 i92_ok (le_of_ble rfl) ?_
  show Wp Pg 8 0 i92_B ⟨argEnv _ i92_V,[],_,_⟩ (qf_92 r)
  unfold zhv at h
  unfold i92_B
  refine weakP [] ?_
  refine Wp.seq (regP (seqN (Wp.seq ?_)))
  refine condFP (Wp.skip (seqN (Wp.seq (Wp.reg ?_))))
  replace h:=bndS h; obtain ⟨r0,g1,h⟩:=h
  replace h:=retS h; subst h
  refine chunkT 2 (tab_cons (zot g1) (tab_nil _)) ?_
  refine lastT (tab_nil _) (seqN (Wp.ret ?_))
  exact finP
noncomputable abbrev qf_90_v0(r:(List Int)):Ex→St→Prop:=FinQ 1 [] (.tup []) [(0,.arr 1 (List.map (ci .i64) r) 0)] 1
theorem zmy{x0:(List Int)}{r:(List Int)} (h:zeo x0=some r):Spec Pg 90 [.own 1 0 0 x0.length false] [(0,.arr 1 (List.map (ci .i64) x0) 0)] 1 (.tup []) [(0,.arr 1 (List.map (ci .i64) r) 0)] 1:=by
  refine Spec.intro Go.Proofs.Try.func90 i90_ok (le_of_ble rfl) ?_
  show Wp Pg 11 1 i90_B ⟨argEnv _ i90_V,[],_,_⟩ (qf_90_v0 r)
  unfold zeo at h
  unfold i90_B
  refine weakP [] ?_
  refine Wp.seq (regP (seqN (Wp.reg ?_)))
  replace h:=bndS h; obtain ⟨r0,g1,h⟩:=h
  refine chunkT 5 (tab_cons (zpz g1) (tab_nil _)) ?_
  replace h:=bndS h; obtain ⟨r0_1,g2,h⟩:=h
  replace h:=reqS h; obtain ⟨g3,h⟩:=h
  replace h:=retS h; subst h
  have:=of_decide_eq_true g3
  refine lastF (tab_cons (zlh g2) (tab_nil _)) ?_
  exact finW [.kill [0,2],.tidy]
noncomputable abbrev qf_89(r:(Int × Bool)):Ex→St→Prop:=FinQ 0 [.tmp 4,.tmp 5] (.tup [.int .i64 r.1,.bool r.2]) [] 0
theorem zkx{l:(List Int)}{n0:Int}{v15:Bool}{r:(Int × Bool)} (h:zfp l n0 v15=some r):Wp Pg 28 0 (.cond (.t 15) (.seq (.reg none i89_R3) .ret) .skip) ⟨[(0,sl (ci .i64) l),(1,.int .i64 n0),(4,.bad),(5,.bad),(6,.int .i64 (0:Int)),(7,.bad),(15,.bool v15)],[],[],0⟩ (seqQ Pg 28 0 (.seq (.reg none i89_R4) (.seq (.reg none i89_R5) (.seq (.reg none i89_R6) .ret))) (qf_89 r)):=by
  unfold zfp at h
  replace h:=ifS h; rcases h with ⟨g2,h⟩ | ⟨g2,h⟩
  ·replace h:=retS h; subst h
   refine condTP (Wp.seq ?_)
   refine regP (seqN (Wp.ret (seqR ?_)))
   exact finP
  ·refine condFP (Wp.skip (seqN (Wp.seq ?_)))
   replace h:=reqS h; obtain ⟨g3,h⟩:=h
   refine regP (seqN (Wp.seq (Wp.reg ?_)))
   replace h:=bndS h; obtain ⟨r0,g4,h⟩:=h
   replace h:=reqS h; obtain ⟨g5,h⟩:=h
   have:=of_decide_eq_true g5
   refine lastF (tab_cons (zmy g4) (tab_nil _)) (seqN (Wp.seq ?_))
   replace h:=bndS h; obtain ⟨e,g6,h⟩:=h
   replace h:=retS h; subst h
   have:=ias_ownL (n:=1) (id:=0) (ex:=false) (k:=.i64) g6 rfl
   try simp only [EV,EVt, *] at this
   have:=ld_get (c:=(ci .i64)) g6
   refine regP (seqN (Wp.ret ?_))
   exact finP
theorem zpi{l:(List Int)}{n0:Int}{r:(Int × Bool)} (h:zis l n0=some r):Spec Pg 89 [sl (ci .i64) l,.int .i64 n0] [] 0 (.tup [.int .i64 r.1,.bool r.2]) [] 0:=by
  refine Spec.intro Go.Proofs.Try.func89 i89_ok (le_of_ble rfl) ?_
  show Wp Pg 28 0 i89_B ⟨argEnv _ i89_V,[],_,_⟩ (qf_89 r)
  unfold zis at h
  unfold i89_B
  refine weakP [] ?_
  refine Wp.seq (regP (seqN (Wp.seq ?_)))
  refine regP (seqN (Wp.seq (Wp.seq ?_)))
  replace h:=ifS h; rcases h with ⟨g1,h⟩ | ⟨g1,h⟩
  ·refine regP (seqN ?_)
   exact jumpK [.kill [4,5,7]] (zkx h)
  ·refine regP (seqN ?_)
   exact jumpK [.kill [4,5,7]] (zkx h)
noncomputable abbrev qf_87(r:Int):Ex→St→Prop:=FinQ 0 [.tmp 2] (.int .i64 r) [] 0
theorem zju{l:(List Int)}{r:Int} (h:zde l=some r):Spec Pg 87 [sl (ci .i64) l] [] 0 (.int .i64 r) [] 0:=by
  refine Spec.intro Go.Proofs.Try.func87 i87_ok (le_of_ble rfl) ?_
  show Wp Pg 14 0 i87_B ⟨argEnv _ i87_V,[],_,_⟩ (qf_87 r)
  unfold zde at h
  unfold i87_B
  refine weakP [] ?_
  refine Wp.seq (regP (seqN (Wp.seq (Wp.reg ?_))))
  replace h:=bndS h; obtain ⟨r0,g1,h⟩:=h
  refine chunkT 4 (tab_cons (zmb g1) (tab_nil _)) ?_
  replace h:=bndS h; obtain ⟨r0_1,g2,h⟩:=h
  replace h:=retS h; subst h
  refine chunkT 1 (tab_cons (zpi g2) (tab_nil _)) ?_
  refine lastT (tab_nil _) (seqN (Wp.seq ?_))
  refine regP (seqN (Wp.ret ?_))
  exact finP
noncomputable abbrev qf_80_v0(r:Tmember):Ex→St→Prop:=FinQ 6 [] (.tup []) (hp67 r.Raft.Id r.Raft.N r.Raft.Term r.Raft.Vote r.Raft.Role r.Raft.Lead r.Raft.Log.Base r.Raft.Log.BaseTerm r.Raft.Log.Entries r.Raft.Commit r.Raft.Snap r.Raft.Granted r.Raft.Next r.Raft.Match r.Raft.Clock r.Raft.Wait r.f_out) 6
theorem zhb{m:Tmember}{r0:Int}{v39:Bool}{r:Tmember} (h:zcg m r0 v39=some r):Wp Pg 45 6 (.cond (.t 39) (.reg none i80_R3) .skip) ⟨[(0,.ptr 0 0),(2,.int .i64 r0),(3,.bad),(4,.bad),(39,.bool v39)],[],(hp67 m.Raft.Id m.Raft.N m.Raft.Term m.Raft.Vote m.Raft.Role m.Raft.Lead m.Raft.Log.Base m.Raft.Log.BaseTerm m.Raft.Log.Entries m.Raft.Commit m.Raft.Snap m.Raft.Granted m.Raft.Next m.Raft.Match m.Raft.Clock m.Raft.Wait m.f_out),6⟩ (qf_80_v0 r):=by
  unfold zcg at h
  replace h:=ifS h; rcases h with ⟨g5,h⟩ | ⟨g5,h⟩
  ·replace h:=retS h; subst h
   refine condTP ?_
   refine regP ?_
   exact finW [.kill [0,2,39],.tidy]
  ·replace h:=retS h; subst h
   refine condFP (Wp.skip ?_)
   exact finW [.kill [0,2,39],.tidy]
theorem zno{m:Tmember}{r:Tmember} (h:zdj m=some r):Spec Pg 80 [.ptr 0 0] (hp67 m.Raft.Id m.Raft.N m.Raft.Term m.Raft.Vote m.Raft.Role m.Raft.Lead m.Raft.Log.Base m.Raft.Log.BaseTerm m.Raft.Log.Entries m.Raft.Commit m.Raft.Snap m.Raft.Granted m.Raft.Next m.Raft.Match m.Raft.Clock m.Raft.Wait m.f_out) 6 (.tup []) (hp67 r.Raft.Id r.Raft.N r.Raft.Term r.Raft.Vote r.Raft.Role r.Raft.Lead r.Raft.Log.Base r.Raft.Log.BaseTerm r.Raft.Log.Entries r.Raft.Commit r.Raft.Snap r.Raft.Granted r.Raft.Next r.Raft.Match r.Raft.Clock r.Raft.Wait r.f_out) 6:=by
  refine Spec.intro Go.Proofs.Try.func80 i80_ok (le_of_ble rfl) ?_
  show Wp Pg 45 6 i80_B ⟨argEnv _ i80_V,[],_,_⟩ (qf_80_v0 r)
  unfold zdj at h
  unfold i80_B
  refine weakP [] ?_
  refine Wp.seq (Wp.reg ?_)
  replace h:=bndS h; obtain ⟨r0,g1,h⟩:=h
  refine chunkT 6 (tab_cons (zju g1) (tab_nil _)) ?_
  refine lastT (tab_nil _) (seqN (Wp.seq (Wp.reg ?_)))
  replace h:=bndS h; obtain ⟨r0_1,g2,h⟩:=h
  refine chunkT 7 (tab_cons (zcl g2) (tab_nil _)) ?_
  refine lastT (tab_nil _) (seqN (Wp.seq ?_))
  replace h:=ifS h; rcases h with ⟨g3,h⟩ | ⟨g3,h⟩
  ·replace h:=ifS h; rcases h with ⟨g4,h⟩ | ⟨g4,h⟩
   ·refine regP (seqN ?_)
    exact jumpK [.kill [3,4]] (zhb h)
   ·refine regP (seqN ?_)
    exact jumpK [.kill [3,4]] (zhb h)
  ·refine regP (seqN ?_)
   exact jumpK [.kill [3,4]] (zhb h)
noncomputable abbrev qf_79(r:TLog):Ex→St→Prop:=FinQ 0 [.cell 4 true 3] (.agg [.int .i64 r.Base,.int .i64 r.BaseTerm,sl TEntry.c r.Entries]) [] 0
theorem zne{l:TLog}{e:TEntry}{r:TLog} (h:zgf l e=some r):Spec Pg 79 [.agg [.int .i64 l.Base,.int .i64 l.BaseTerm,sl TEntry.c l.Entries],.agg [.int .i64 e.Term,sl (ci .u8) e.Data]] [] 0 (.agg [.int .i64 r.Base,.int .i64 r.BaseTerm,sl TEntry.c r.Entries]) [] 0:=by
  refine Spec.intro Go.Proofs.Try.func79 i79_ok (le_of_ble rfl) ?_
  show Wp Pg 20 0 i79_B ⟨argEnv _ i79_V,[],_,_⟩ (qf_79 r)
  unfold zgf at h
  unfold i79_B
  refine weakP [] ?_
  refine Wp.seq (regP (seqN (Wp.seq (Wp.reg ?_))))
  replace h:=bndS h; obtain ⟨r0,g1,h⟩:=h
  refine chunkF 2 (tab_cons (zgi g1) (tab_nil _)) ?_
  refine lastT (tab_nil _) (seqN (Wp.seq ?_))
  replace h:=reqS h; obtain ⟨g2,h⟩:=h
  replace h:=reqS h; obtain ⟨g3,h⟩:=h
  replace h:=retS h; subst h
  refine drawP [] mixed (clsN _) (seqN (Wp.seq ?_))
  refine regP (seqN ?_)
  refine weakP [.cell 4 2 .frz] (Wp.ret ?_)
  exact finP
noncomputable abbrev qf_54_v0(r:Tmember):Ex→St→Prop:=FinQ 7 [] (.tup []) (hp44 r.Raft.Id r.Raft.N r.Raft.Term r.Raft.Vote r.Raft.Role r.Raft.Lead r.Raft.Log.Base r.Raft.Log.BaseTerm r.Raft.Log.Entries r.Raft.Commit r.Raft.Snap r.Raft.Granted r.Raft.Next r.Raft.Match r.Raft.Clock r.Raft.Wait r.f_out) 8
theorem zkt{m:Tmember}{r:Tmember} (h:zdk m=some r):Spec Pg 54 [.ptr 0 0,.nil] (zrv m.Raft.Id m.Raft.N m.Raft.Term m.Raft.Vote m.Raft.Role m.Raft.Lead m.Raft.Log.Base m.Raft.Log.BaseTerm m.Raft.Log.Entries m.Raft.Commit m.Raft.Snap m.Raft.Granted m.Raft.Next m.Raft.Match m.Raft.Clock m.Raft.Wait m.f_out) 7 (.tup []) (hp44 r.Raft.Id r.Raft.N r.Raft.Term r.Raft.Vote r.Raft.Role r.Raft.Lead r.Raft.Log.Base r.Raft.Log.BaseTerm r.Raft.Log.Entries r.Raft.Commit r.Raft.Snap r.Raft.Granted r.Raft.Next r.Raft.Match r.Raft.Clock r.Raft.Wait r.f_out) 8:=by
  refine Spec.intro Go.Proofs.Try.func54 i54_ok (le_of_ble rfl) ?_
  show Wp Pg 45 7 i54_B ⟨argEnv _ i54_V,[],_,_⟩ (qf_54_v0 r)
  unfold zdk at h
  unfold i54_B
  refine weakP [.movc 0 16] ?_
  refine Wp.seq ?_
  replace h:=bndS h; obtain ⟨r0,g1,h⟩:=h
  refine drawP [] mixed (clsC 13 (tab_cons (zne g1) (tab_nil _)) (clsN _)) (seqN (Wp.seq ?_))
  replace h:=bndS h; obtain ⟨r0_1,g2,h⟩:=h
  replace h:=bndS h; obtain ⟨e,g3,h⟩:=h
  have:=ias_ownL (n:=1) (id:=5) (ex:=true) (k:=.i64) g3 rfl
  have:=ld_get (c:=(ci .i64)) g3
  have:=set_get (ci .i64) m.Raft.Match (IntKind.i64.wrap (m.Raft.Id - (1:Int))) r0_1
  try simp only [EV,EVt, *] at this
  refine drawP [] mixed (clsC 16 (tab_cons (zbg g2) (tab_nil _)) (clsN _)) (seqN (Wp.seq (Wp.reg ?_)))
  replace h:=bndS h; obtain ⟨r0_2,g4,h⟩:=h
  refine lastF (tab_cons (zno g4) (tab_nil _)) (seqN (Wp.reg ?_))
  replace h:=bndS h; obtain ⟨r0_3,g5,h⟩:=h
  replace h:=retS h; subst h
  refine lastF (tab_cons (znl g5) (tab_nil _)) ?_
  exact finW [.kill [0,1],.drop [1],.tidy]
noncomputable abbrev qf_71_v0(r:Tmember):Ex→St→Prop:=FinQ 7 [] (.tup []) (zjz r.Raft.Id r.Raft.N r.Raft.Term r.Raft.Vote r.Raft.Role r.Raft.Lead r.Raft.Log.Base r.Raft.Log.BaseTerm r.Raft.Log.Entries r.Raft.Commit r.Raft.Snap r.Raft.Granted r.Raft.Next r.Raft.Match r.Raft.Clock r.Raft.Wait r.f_out) 11
noncomputable abbrev zkd(r0:Tmember)(rec0:Int→(List Int)→Option Tmember)(r:Tmember):Prop:=∀ {v49:Int} {zc:(List Int)},rec0 v49 zc=some r→LWp Pg 69 7 i71_L0 ⟨[(0,.ptr 0 0),(2,.bad),(48,.int .i64 ((r0.Raft.N.toNat:Nat):Int)),(49,.int .i64 v49),(50,.bad)],[],(hp90 r0.Raft.Id r0.Raft.N r0.Raft.Term r0.Raft.Vote (3:Int) r0.Raft.Lead r0.Raft.Log.Base r0.Raft.Log.BaseTerm r0.Raft.Log.Entries r0.Raft.Commit r0.Raft.Snap r0.Raft.Granted zc (List.replicate r0.Raft.N.toNat (0:Int)) (0:Int) r0.Raft.Wait r0.f_out),12⟩ (blockQ 0 (seqQ Pg 69 7 (.reg none i71_R8) (qf_71_v0 r)))
theorem zmz{r0:Tmember}{zw:(List Int)}{r:Tmember} (h:zcw r0 zw=some r):Wp Pg 69 7 (.reg none i71_R8) ⟨[(0,.ptr 0 0),(2,.bad),(48,.bad),(49,.bad),(50,.bad)],[],(hp90 r0.Raft.Id r0.Raft.N r0.Raft.Term r0.Raft.Vote (3:Int) r0.Raft.Lead r0.Raft.Log.Base r0.Raft.Log.BaseTerm r0.Raft.Log.Entries r0.Raft.Commit r0.Raft.Snap r0.Raft.Granted zw (List.replicate r0.Raft.N.toNat (0:Int)) (0:Int) r0.Raft.Wait r0.f_out),12⟩ (qf_71_v0 r):=by
  unfold zcw at h
  refine Wp.reg ?_
  replace h:=bndS h; obtain ⟨r0_2,g6,h⟩:=h
  replace h:=retS h; subst h
  refine lastF (tab_cons (zkt g6) (tab_nil _)) ?_
  exact finW [.kill [0],.tidy]
theorem zml{r0:Tmember}{r:Tmember} {zeu:Int→(List Int)→Option Tmember}(zly:zkd r0 zeu r){v49:Int}{zc:(List Int)}(h:zch r0 zeu v49 zc=some r):LWp Pg 69 7 i71_L0 ⟨[(0,.ptr 0 0),(2,.bad),(48,.int .i64 ((r0.Raft.N.toNat:Nat):Int)),(49,.int .i64 v49),(50,.bad)],[],(hp90 r0.Raft.Id r0.Raft.N r0.Raft.Term r0.Raft.Vote (3:Int) r0.Raft.Lead r0.Raft.Log.Base r0.Raft.Log.BaseTerm r0.Raft.Log.Entries r0.Raft.Commit r0.Raft.Snap r0.Raft.Granted zc (List.replicate r0.Raft.N.toNat (0:Int)) (0:Int) r0.Raft.Wait r0.f_out),12⟩ (blockQ 0 (seqQ Pg 69 7 (.reg none i71_R8) (qf_71_v0 r))):=by
  unfold zch at h
  refine LWp.stepC i71_L0.eq_1 ?_
  refine Wp.seq (regP (seqN (Wp.seq ?_)))
  replace h:=ifS h; rcases h with ⟨g3,h⟩ | ⟨g3,h⟩
  ·refine condTP (Wp.skip (seqN (Wp.seq (Wp.block (Wp.seq ?_)))))
   refine regP (seqN ?_)
   replace h:=bndS h; obtain ⟨r0_1,g4,h⟩:=h
   replace h:=bndS h; obtain ⟨e,g5,h⟩:=h
   have:=ias_ownL (n:=1) (id:=9) (ex:=true) (k:=.i64) g5 rfl
   have:=ld_get (c:=(ci .i64)) g5
   have:=set_get (ci .i64) zc v49 (IntKind.i64.wrap (r0_1 + (1:Int)))
   try simp only [EV,EVt, *] at this
   refine drawP [] mixed (clsC 11 (tab_cons (zbg g4) (tab_nil _)) (clsN _)) (blockN (seqN ?_))
   refine regP (loopN ?_)
   exact jumpL [.kill [2,50],.tidy] (zly h)
  ·refine condFP (Wp.out (seqO (loopO (blockO (seqN ?_)))))
   exact jumpK [.kill [48,49,50]] (zmz h)
theorem zna{r0:Tmember}{r:Tmember}:∀ (n:Nat),zkd r0 (zu r0 n) r:=by
  intro n
  induction n with
  | zero=>intro v49 zc h; unfold zu at h; cases h
  | succ n ih=>intro v49 zc h; unfold zu at h; exact zml ih h
theorem zlb{m:Tmember}{r:Tmember} (h:zca m=some r):Spec Pg 71 [.ptr 0 0] (hp65 m.Raft.Id m.Raft.N m.Raft.Term m.Raft.Vote m.Raft.Role m.Raft.Lead m.Raft.Log.Base m.Raft.Log.BaseTerm m.Raft.Log.Entries m.Raft.Commit m.Raft.Snap m.Raft.Granted m.Raft.Next m.Raft.Match m.Raft.Clock m.Raft.Wait m.f_out) 7 (.tup []) (zjz r.Raft.Id r.Raft.N r.Raft.Term r.Raft.Vote r.Raft.Role r.Raft.Lead r.Raft.Log.Base r.Raft.Log.BaseTerm r.Raft.Log.Entries r.Raft.Commit r.Raft.Snap r.Raft.Granted r.Raft.Next r.Raft.Match r.Raft.Clock r.Raft.Wait r.f_out) 11:=by
  refine Spec.intro Go.Proofs.Try.func71 i71_ok (le_of_ble rfl) ?_
  show Wp Pg 69 7 i71_B ⟨argEnv _ i71_V,[],_,_⟩ (qf_71_v0 r)
  unfold zca at h
  unfold i71_B
  refine weakP [.movc 0 11,.movc 0 12,.movc 0 13,.movc 0 16,.movc 0 8] ?_
  refine Wp.seq ?_
  replace h:=bndS h; obtain ⟨r0,g1,h⟩:=h
  refine drawP [66] mixed (clsC 11 (tab_cons (zjo g1) (tab_nil _)) (clsN _)) (seqN (Wp.seq ?_))
  refine regP (seqN (Wp.seq ?_))
  replace h:=reqS h; obtain ⟨g2,h⟩:=h
  refine drawP [] mixed (clsN _) (seqN (Wp.seq (Wp.seq ?_)))
  refine regP (seqN (Wp.block (Wp.loop ?_)))
  exact jumpL [.kill [2,50],.tidy] (zna _ h)
noncomputable abbrev qf_69_v0(r:Tmember):Ex→St→Prop:=FinQ 7 [] (.tup []) (zjz r.Raft.Id r.Raft.N r.Raft.Term r.Raft.Vote r.Raft.Role r.Raft.Lead r.Raft.Log.Base r.Raft.Log.BaseTerm r.Raft.Log.Entries r.Raft.Commit r.Raft.Snap r.Raft.Granted r.Raft.Next r.Raft.Match r.Raft.Clock r.Raft.Wait r.f_out) 11
theorem zod{m:Tmember}{r:Tmember} (h:zea m=some r):Spec Pg 69 [.ptr 0 0] (hp65 m.Raft.Id m.Raft.N m.Raft.Term m.Raft.Vote m.Raft.Role m.Raft.Lead m.Raft.Log.Base m.Raft.Log.BaseTerm m.Raft.Log.Entries m.Raft.Commit m.Raft.Snap m.Raft.Granted m.Raft.Next m.Raft.Match m.Raft.Clock m.Raft.Wait m.f_out) 7 (.tup []) (zjz r.Raft.Id r.Raft.N r.Raft.Term r.Raft.Vote r.Raft.Role r.Raft.Lead r.Raft.Log.Base r.Raft.Log.BaseTerm r.Raft.Log.Entries r.Raft.Commit r.Raft.Snap r.Raft.Granted r.Raft.Next r.Raft.Match r.Raft.Clock r.Raft.Wait r.f_out) 11:=by
  refine Spec.intro Go.Proofs.Try.func69 i69_ok (le_of_ble rfl) ?_
  show Wp Pg 49 7 i69_B ⟨argEnv _ i69_V,[],_,_⟩ (qf_69_v0 r)
  unfold zea at h
  unfold i69_B
  refine weakP [.movc 0 11,.movc 0 12,.movc 0 13,.movc 0 16,.movc 0 8] ?_
  refine Wp.seq (regP (seqN (Wp.seq ?_)))
  replace h:=bndS h; obtain ⟨r0,g1,h⟩:=h
  refine drawP [66] mixed (clsC 7 (tab_cons (zjo g1) (tab_nil _)) (clsN _)) (seqN (Wp.seq ?_))
  refine drawP [] mixed (clsN _) (seqN (Wp.seq ?_))
  replace h:=reqS h; obtain ⟨g2,h⟩:=h
  refine drawP [] mixed (clsN _) (seqN (Wp.seq (Wp.seq ?_)))
  replace h:=bndS h; obtain ⟨r0_1,g3,h⟩:=h
  refine drawP [68] mixed (clsC 6 (tab_cons (zip g3) (tab_nil _)) (clsN _)) (seqN ?_)
  replace h:=ifS h; rcases h with ⟨g4,h⟩ | ⟨g4,h⟩
  ·refine condTP (Wp.seq (Wp.reg ?_))
   replace h:=bndS h; obtain ⟨r0_2,g5,h⟩:=h
   replace h:=retS h; subst h
   refine lastF (tab_cons (zlb g5) (tab_nil _)) (seqN (Wp.ret (seqR ?_)))
   exact finW [.kill [0,1,43],.tidy]
  ·refine condFP (Wp.skip (seqN (Wp.reg ?_)))
   replace h:=bndS h; obtain ⟨r0_3,g6,h⟩:=h
   replace h:=retS h; subst h
   refine lastF (tab_cons (zkp g6) (tab_nil _)) ?_
   exact finW [.cell 0 8 .frz,.kill [0,1,43],.tidy]
noncomputable abbrev qf_77(r:Int):Ex→St→Prop:=FinQ 0 [.tmp 2] (.int .i64 r) [] 0
theorem zrf{draw:Int}{r:Int} (h:zkm draw=some r):Spec Pg 77 [.int .i64 draw] [] 0 (.int .i64 r) [] 0:=by
  refine Spec.intro Go.Proofs.Try.func77 i77_ok (le_of_ble rfl) ?_
  show Wp Pg 8 0 i77_B ⟨argEnv _ i77_V,[],_,_⟩ (qf_77 r)
  unfold zkm at h
  unfold i77_B
  refine weakP [] ?_
  replace h:=retS h; subst h
  refine Wp.seq (regP (seqN (Wp.seq ?_)))
  refine regP (seqN (Wp.ret ?_))
  exact finP
noncomputable abbrev qf_52_v0(r:Tmember):Ex→St→Prop:=FinQ 7 [] (.tup []) (zjz r.Raft.Id r.Raft.N r.Raft.Term r.Raft.Vote r.Raft.Role r.Raft.Lead r.Raft.Log.Base r.Raft.Log.BaseTerm r.Raft.Log.Entries r.Raft.Commit r.Raft.Snap r.Raft.Granted r.Raft.Next r.Raft.Match r.Raft.Clock r.Raft.Wait r.f_out) 11
theorem zou{draw:Int}{m:Tmember}{r:Tmember} (h:zfe draw m=some r):Spec Pg 52 [.ptr 0 0,.int .i64 draw] (hp15 m.Raft.Id m.Raft.N m.Raft.Term m.Raft.Vote m.Raft.Role m.Raft.Lead m.Raft.Log.Base m.Raft.Log.BaseTerm m.Raft.Log.Entries m.Raft.Commit m.Raft.Snap m.Raft.Granted m.Raft.Next m.Raft.Match m.Raft.Clock m.Raft.Wait m.f_out) 7 (.tup []) (zjz r.Raft.Id r.Raft.N r.Raft.Term r.Raft.Vote r.Raft.Role r.Raft.Lead r.Raft.Log.Base r.Raft.Log.BaseTerm r.Raft.Log.Entries r.Raft.Commit r.Raft.Snap r.Raft.Granted r.Raft.Next r.Raft.Match r.Raft.Clock r.Raft.Wait r.f_out) 11:=by
  refine Spec.intro Go.Proofs.Try.func52 i52_ok (le_of_ble rfl) ?_
  show Wp Pg 47 7 i52_B ⟨argEnv _ i52_V,[],_,_⟩ (qf_52_v0 r)
  unfold zfe at h
  unfold i52_B
  refine weakP [.movc 0 11,.movc 0 12,.movc 0 13,.movc 0 16,.movc 0 8] ?_
  refine Wp.seq (regP (seqN (Wp.seq ?_)))
  replace h:=bndS h; obtain ⟨r0,g1,h⟩:=h
  refine drawP [66] mixed (clsC 6 (tab_cons (zeh g1) (tab_nil _)) (clsN _)) (seqN (Wp.seq ?_))
  replace h:=bndS h; obtain ⟨r0_1,g2,h⟩:=h
  refine drawP [] mixed (clsC 4 (tab_cons (zrf g2) (tab_nil _)) (clsN _)) (seqN (Wp.seq ?_))
  replace h:=reqS h; obtain ⟨g3,h⟩:=h
  refine drawP [] mixed (clsN _) (seqN (Wp.seq (Wp.seq ?_)))
  replace h:=bndS h; obtain ⟨r0_2,g4,h⟩:=h
  refine drawP [68] mixed (clsC 6 (tab_cons (zip g4) (tab_nil _)) (clsN _)) (seqN ?_)
  replace h:=ifS h; rcases h with ⟨g5,h⟩ | ⟨g5,h⟩
  ·refine condTP (Wp.seq (Wp.reg ?_))
   replace h:=bndS h; obtain ⟨r0_3,g6,h⟩:=h
   replace h:=retS h; subst h
   refine lastF (tab_cons (zod g6) (tab_nil _)) (seqN (Wp.ret (seqR ?_)))
   exact finW [.kill [0,1,2,41],.tidy]
  ·refine condFP (Wp.skip (seqN (Wp.reg ?_)))
   replace h:=bndS h; obtain ⟨r0_4,g7,h⟩:=h
   replace h:=retS h; subst h
   refine lastF (tab_cons (znm g7) (tab_nil _)) ?_
   exact finW [.cell 0 8 .frz,.kill [0,1,2,41],.tidy]
noncomputable abbrev qf_53_v0(m:Tmember)(r:(TRaft × (List TMsg))):Ex→St→Prop:=FinQ 6 [.cell 2 true 16,.tmp 3] (.tup [.agg [.int .i64 r.1.Id,.int .i64 r.1.N,.int .i64 r.1.Term,.int .i64 r.1.Vote,.int .i64 r.1.Role,.int .i64 r.1.Lead,.int .i64 r.1.Log.Base,.int .i64 r.1.Log.BaseTerm,sl TEntry.c r.1.Log.Entries,.int .i64 r.1.Commit,.own 1 1 0 ((r.1.Snap).length) false,.own 1 2 0 ((r.1.Granted).length) false,.own 1 3 0 ((r.1.Next).length) false,.own 1 4 0 ((r.1.Match).length) false,.int .i64 r.1.Clock,.int .i64 r.1.Wait],.own 11 5 0 ((r.2).length) false]) [(0,.box [.int .i64 m.Raft.Id,.int .i64 m.Raft.N,.int .i64 m.Raft.Term,.int .i64 m.Raft.Vote,.int .i64 m.Raft.Role,.int .i64 m.Raft.Lead,.int .i64 m.Raft.Log.Base,.int .i64 m.Raft.Log.BaseTerm,sl TEntry.c m.Raft.Log.Entries,.int .i64 m.Raft.Commit,.own 1 1 0 ((m.Raft.Snap).length) false,.own 1 2 0 ((m.Raft.Granted).length) false,.own 1 3 0 ((m.Raft.Next).length) false,.own 1 4 0 ((m.Raft.Match).length) false,.int .i64 m.Raft.Clock,.int .i64 m.Raft.Wait,.own 11 5 0 ((m.f_out).length) false]),(1,.arr 1 (List.map (ci .u8) r.1.Snap) 0),(2,.arr 1 (List.map cb r.1.Granted) 0),(3,.arr 1 (List.map (ci .i64) r.1.Next) 0),(4,.arr 1 (List.map (ci .i64) r.1.Match) 0),(5,.arr 11 (List.map TMsg.c r.2) 0)] 6
theorem ziw{m:Tmember}{r:(TRaft × (List TMsg))} (h:zfv m=some r):Spec Pg 53 [.ptr 0 0] (hp99 m.Raft.Id m.Raft.N m.Raft.Term m.Raft.Vote m.Raft.Role m.Raft.Lead m.Raft.Log.Base m.Raft.Log.BaseTerm m.Raft.Log.Entries m.Raft.Commit m.Raft.Snap m.Raft.Granted m.Raft.Next m.Raft.Match m.Raft.Clock m.Raft.Wait m.f_out) 6 (.tup [.agg [.int .i64 r.1.Id,.int .i64 r.1.N,.int .i64 r.1.Term,.int .i64 r.1.Vote,.int .i64 r.1.Role,.int .i64 r.1.Lead,.int .i64 r.1.Log.Base,.int .i64 r.1.Log.BaseTerm,sl TEntry.c r.1.Log.Entries,.int .i64 r.1.Commit,.own 1 1 0 ((r.1.Snap).length) false,.own 1 2 0 ((r.1.Granted).length) false,.own 1 3 0 ((r.1.Next).length) false,.own 1 4 0 ((r.1.Match).length) false,.int .i64 r.1.Clock,.int .i64 r.1.Wait],.own 11 5 0 ((r.2).length) false]) [(0,.box [.int .i64 m.Raft.Id,.int .i64 m.Raft.N,.int .i64 m.Raft.Term,.int .i64 m.Raft.Vote,.int .i64 m.Raft.Role,.int .i64 m.Raft.Lead,.int .i64 m.Raft.Log.Base,.int .i64 m.Raft.Log.BaseTerm,sl TEntry.c m.Raft.Log.Entries,.int .i64 m.Raft.Commit,.own 1 1 0 ((m.Raft.Snap).length) false,.own 1 2 0 ((m.Raft.Granted).length) false,.own 1 3 0 ((m.Raft.Next).length) false,.own 1 4 0 ((m.Raft.Match).length) false,.int .i64 m.Raft.Clock,.int .i64 m.Raft.Wait,.own 11 5 0 ((m.f_out).length) false]),(1,.arr 1 (List.map (ci .u8) r.1.Snap) 0),(2,.arr 1 (List.map cb r.1.Granted) 0),(3,.arr 1 (List.map (ci .i64) r.1.Next) 0),(4,.arr 1 (List.map (ci .i64) r.1.Match) 0),(5,.arr 11 (List.map TMsg.c r.2) 0)] 6:=by
  refine Spec.intro Go.Proofs.Try.func53 i53_ok (le_of_ble rfl) ?_
  show Wp Pg 12 6 i53_B ⟨argEnv _ i53_V,[],_,_⟩ (qf_53_v0 m r)
  unfold zfv at h
  unfold i53_B
  refine weakP [] ?_
  replace h:=retS h; subst h
  refine Wp.seq (regP (seqN (Wp.seq ?_)))
  refine drawP [] mixed (clsN _) (seqN (Wp.ret ?_))
  exact finW [.kill [0],.tidy]
noncomputable abbrev qf_53_v1(m:Tmember)(r:(TRaft × (List TMsg))):Ex→St→Prop:=FinQ 7 [.cell 2 true 16,.tmp 3] (.tup [.agg [.int .i64 r.1.Id,.int .i64 r.1.N,.int .i64 r.1.Term,.int .i64 r.1.Vote,.int .i64 r.1.Role,.int .i64 r.1.Lead,.int .i64 r.1.Log.Base,.int .i64 r.1.Log.BaseTerm,.own 2 1 0 ((r.1.Log.Entries).length) false,.int .i64 r.1.Commit,.own 1 2 0 ((r.1.Snap).length) false,.own 1 3 0 ((r.1.Granted).length) false,.own 1 4 0 ((r.1.Next).length) false,.own 1 5 0 ((r.1.Match).length) false,.int .i64 r.1.Clock,.int .i64 r.1.Wait],.own 11 6 0 ((r.2).length) false]) [(0,.box [.int .i64 m.Raft.Id,.int .i64 m.Raft.N,.int .i64 m.Raft.Term,.int .i64 m.Raft.Vote,.int .i64 m.Raft.Role,.int .i64 m.Raft.Lead,.int .i64 m.Raft.Log.Base,.int .i64 m.Raft.Log.BaseTerm,.own 2 1 0 ((m.Raft.Log.Entries).length) false,.int .i64 m.Raft.Commit,.own 1 2 0 ((m.Raft.Snap).length) false,.own 1 3 0 ((m.Raft.Granted).length) false,.own 1 4 0 ((m.Raft.Next).length) false,.own 1 5 0 ((m.Raft.Match).length) false,.int .i64 m.Raft.Clock,.int .i64 m.Raft.Wait,.own 11 6 0 ((m.f_out).length) false]),(1,.arr 2 (List.map TEntry.c r.1.Log.Entries) 0),(2,.arr 1 (List.map (ci .u8) r.1.Snap) 0),(3,.arr 1 (List.map cb r.1.Granted) 0),(4,.arr 1 (List.map (ci .i64) r.1.Next) 0),(5,.arr 1 (List.map (ci .i64) r.1.Match) 0),(6,.arr 11 (List.map TMsg.c r.2) 0)] 7
theorem znb{m:Tmember}{r:(TRaft × (List TMsg))} (h:zii m=some r):Spec Pg 53 [.ptr 0 0] (hp15 m.Raft.Id m.Raft.N m.Raft.Term m.Raft.Vote m.Raft.Role m.Raft.Lead m.Raft.Log.Base m.Raft.Log.BaseTerm m.Raft.Log.Entries m.Raft.Commit m.Raft.Snap m.Raft.Granted m.Raft.Next m.Raft.Match m.Raft.Clock m.Raft.Wait m.f_out) 7 (.tup [.agg [.int .i64 r.1.Id,.int .i64 r.1.N,.int .i64 r.1.Term,.int .i64 r.1.Vote,.int .i64 r.1.Role,.int .i64 r.1.Lead,.int .i64 r.1.Log.Base,.int .i64 r.1.Log.BaseTerm,.own 2 1 0 ((r.1.Log.Entries).length) false,.int .i64 r.1.Commit,.own 1 2 0 ((r.1.Snap).length) false,.own 1 3 0 ((r.1.Granted).length) false,.own 1 4 0 ((r.1.Next).length) false,.own 1 5 0 ((r.1.Match).length) false,.int .i64 r.1.Clock,.int .i64 r.1.Wait],.own 11 6 0 ((r.2).length) false]) [(0,.box [.int .i64 m.Raft.Id,.int .i64 m.Raft.N,.int .i64 m.Raft.Term,.int .i64 m.Raft.Vote,.int .i64 m.Raft.Role,.int .i64 m.Raft.Lead,.int .i64 m.Raft.Log.Base,.int .i64 m.Raft.Log.BaseTerm,.own 2 1 0 ((m.Raft.Log.Entries).length) false,.int .i64 m.Raft.Commit,.own 1 2 0 ((m.Raft.Snap).length) false,.own 1 3 0 ((m.Raft.Granted).length) false,.own 1 4 0 ((m.Raft.Next).length) false,.own 1 5 0 ((m.Raft.Match).length) false,.int .i64 m.Raft.Clock,.int .i64 m.Raft.Wait,.own 11 6 0 ((m.f_out).length) false]),(1,.arr 2 (List.map TEntry.c r.1.Log.Entries) 0),(2,.arr 1 (List.map (ci .u8) r.1.Snap) 0),(3,.arr 1 (List.map cb r.1.Granted) 0),(4,.arr 1 (List.map (ci .i64) r.1.Next) 0),(5,.arr 1 (List.map (ci .i64) r.1.Match) 0),(6,.arr 11 (List.map TMsg.c r.2) 0)] 7:=by
  refine Spec.intro Go.Proofs.Try.func53 i53_ok (le_of_ble rfl) ?_
  show Wp Pg 12 7 i53_B ⟨argEnv _ i53_V,[],_,_⟩ (qf_53_v1 m r)
  unfold zii at h
  unfold i53_B
  refine weakP [] ?_
  replace h:=retS h; subst h
  refine Wp.seq (regP (seqN (Wp.seq ?_)))
  refine drawP [] mixed (clsN _) (seqN (Wp.ret ?_))
  exact finW [.kill [0],.tidy]
noncomputable abbrev qf_80_v1(r:Tmember):Ex→St→Prop:=FinQ 6 [] (.tup []) (hp99 r.Raft.Id r.Raft.N r.Raft.Term r.Raft.Vote r.Raft.Role r.Raft.Lead r.Raft.Log.Base r.Raft.Log.BaseTerm r.Raft.Log.Entries r.Raft.Commit r.Raft.Snap r.Raft.Granted r.Raft.Next r.Raft.Match r.Raft.Clock r.Raft.Wait r.f_out) 6
theorem zfr{m:Tmember}{r0:Int}{v39:Bool}{r:Tmember} (h:zcj m r0 v39=some r):Wp Pg 45 6 (.cond (.t 39) (.reg none i80_R3) .skip) ⟨[(0,.ptr 0 0),(2,.int .i64 r0),(3,.bad),(4,.bad),(39,.bool v39)],[],(hp99 m.Raft.Id m.Raft.N m.Raft.Term m.Raft.Vote m.Raft.Role m.Raft.Lead m.Raft.Log.Base m.Raft.Log.BaseTerm m.Raft.Log.Entries m.Raft.Commit m.Raft.Snap m.Raft.Granted m.Raft.Next m.Raft.Match m.Raft.Clock m.Raft.Wait m.f_out),6⟩ (qf_80_v1 r):=by
  unfold zcj at h
  replace h:=ifS h; rcases h with ⟨g5,h⟩ | ⟨g5,h⟩
  ·replace h:=retS h; subst h
   refine condTP ?_
   refine regP ?_
   exact finW [.kill [0,2,39],.tidy]
  ·replace h:=retS h; subst h
   refine condFP (Wp.skip ?_)
   exact finW [.kill [0,2,39],.tidy]
theorem zmm{m:Tmember}{r:Tmember} (h:zdr m=some r):Spec Pg 80 [.ptr 0 0] (hp99 m.Raft.Id m.Raft.N m.Raft.Term m.Raft.Vote m.Raft.Role m.Raft.Lead m.Raft.Log.Base m.Raft.Log.BaseTerm m.Raft.Log.Entries m.Raft.Commit m.Raft.Snap m.Raft.Granted m.Raft.Next m.Raft.Match m.Raft.Clock m.Raft.Wait m.f_out) 6 (.tup []) (hp99 r.Raft.Id r.Raft.N r.Raft.Term r.Raft.Vote r.Raft.Role r.Raft.Lead r.Raft.Log.Base r.Raft.Log.BaseTerm r.Raft.Log.Entries r.Raft.Commit r.Raft.Snap r.Raft.Granted r.Raft.Next r.Raft.Match r.Raft.Clock r.Raft.Wait r.f_out) 6:=by
  refine Spec.intro Go.Proofs.Try.func80 i80_ok (le_of_ble rfl) ?_
  show Wp Pg 45 6 i80_B ⟨argEnv _ i80_V,[],_,_⟩ (qf_80_v1 r)
  unfold zdr at h
  unfold i80_B
  refine weakP [] ?_
  refine Wp.seq (Wp.reg ?_)
  replace h:=bndS h; obtain ⟨r0,g1,h⟩:=h
  refine chunkT 6 (tab_cons (zju g1) (tab_nil _)) ?_
  refine lastT (tab_nil _) (seqN (Wp.seq (Wp.reg ?_)))
  replace h:=bndS h; obtain ⟨r0_1,g2,h⟩:=h
  refine chunkT 7 (tab_cons (zcl g2) (tab_nil _)) ?_
  refine lastT (tab_nil _) (seqN (Wp.seq ?_))
  replace h:=ifS h; rcases h with ⟨g3,h⟩ | ⟨g3,h⟩
  ·replace h:=ifS h; rcases h with ⟨g4,h⟩ | ⟨g4,h⟩
   ·refine regP (seqN ?_)
    exact jumpK [.kill [3,4]] (zfr h)
   ·refine regP (seqN ?_)
    exact jumpK [.kill [3,4]] (zfr h)
  ·refine regP (seqN ?_)
   exact jumpK [.kill [3,4]] (zfr h)
noncomputable abbrev qf_54_v1(r:Tmember):Ex→St→Prop:=FinQ 7 [] (.tup []) (hp44 r.Raft.Id r.Raft.N r.Raft.Term r.Raft.Vote r.Raft.Role r.Raft.Lead r.Raft.Log.Base r.Raft.Log.BaseTerm r.Raft.Log.Entries r.Raft.Commit r.Raft.Snap r.Raft.Granted r.Raft.Next r.Raft.Match r.Raft.Clock r.Raft.Wait r.f_out) 8
theorem zmn{data:(List Int)}{m:Tmember}{r:Tmember} (h:zfn data m=some r):Spec Pg 54 [.ptr 0 0,sl (ci .u8) data] (hp15 m.Raft.Id m.Raft.N m.Raft.Term m.Raft.Vote m.Raft.Role m.Raft.Lead m.Raft.Log.Base m.Raft.Log.BaseTerm m.Raft.Log.Entries m.Raft.Commit m.Raft.Snap m.Raft.Granted m.Raft.Next m.Raft.Match m.Raft.Clock m.Raft.Wait m.f_out) 7 (.tup []) (hp44 r.Raft.Id r.Raft.N r.Raft.Term r.Raft.Vote r.Raft.Role r.Raft.Lead r.Raft.Log.Base r.Raft.Log.BaseTerm r.Raft.Log.Entries r.Raft.Commit r.Raft.Snap r.Raft.Granted r.Raft.Next r.Raft.Match r.Raft.Clock r.Raft.Wait r.f_out) 8:=by
  refine Spec.intro Go.Proofs.Try.func54 i54_ok (le_of_ble rfl) ?_
  show Wp Pg 45 7 i54_B ⟨argEnv _ i54_V,[],_,_⟩ (qf_54_v1 r)
  unfold zfn at h
  unfold i54_B
  refine weakP [.movc 0 16] ?_
  refine Wp.seq ?_
  replace h:=bndS h; obtain ⟨r0,g1,h⟩:=h
  refine drawP [] mixed (clsC 13 (tab_cons (zne g1) (tab_nil _)) (clsN _)) (seqN (Wp.seq ?_))
  replace h:=bndS h; obtain ⟨r0_1,g2,h⟩:=h
  replace h:=bndS h; obtain ⟨e,g3,h⟩:=h
  have:=ias_ownL (n:=1) (id:=5) (ex:=false) (k:=.i64) g3 rfl
  have:=ld_get (c:=(ci .i64)) g3
  have:=set_get (ci .i64) m.Raft.Match (IntKind.i64.wrap (m.Raft.Id - (1:Int))) r0_1
  try simp only [EV,EVt, *] at this
  refine drawP [] mixed (clsC 16 (tab_cons (zbg g2) (tab_nil _)) (clsN _)) (seqN (Wp.seq (Wp.reg ?_)))
  replace h:=bndS h; obtain ⟨r0_2,g4,h⟩:=h
  refine lastF (tab_cons (zmm g4) (tab_nil _)) (seqN (Wp.reg ?_))
  replace h:=bndS h; obtain ⟨r0_3,g5,h⟩:=h
  replace h:=retS h; subst h
  refine lastF (tab_cons (znn g5) (tab_nil _)) ?_
  exact finW [.kill [0,1],.drop [1],.tidy]
noncomputable abbrev qf_76_v3(r:Tmember):Ex→St→Prop:=FinQ 7 [] (.tup []) (zoi r.Raft.Id r.Raft.N r.Raft.Term r.Raft.Vote r.Raft.Role r.Raft.Lead r.Raft.Log.Base r.Raft.Log.BaseTerm r.Raft.Log.Entries r.Raft.Commit r.Raft.Snap r.Raft.Granted r.Raft.Next r.Raft.Match r.Raft.Clock r.Raft.Wait r.f_out) 8
theorem zhq{to0:Int}{x0:TMsg}{m:Tmember}{r:Tmember} (h:zbx to0 x0 m=some r):Spec Pg 76 [.ptr 0 0,.int .i64 to0,.agg [.int .i64 x0.Kind,.int .i64 x0.Group,.int .i64 x0.From,.int .i64 x0.To,.int .i64 x0.Term,.int .i64 x0.At,.int .i64 x0.AtTerm,.int .i64 x0.Commit,.bool x0.Ok,.nil,.nil]] (hp15 m.Raft.Id m.Raft.N m.Raft.Term m.Raft.Vote m.Raft.Role m.Raft.Lead m.Raft.Log.Base m.Raft.Log.BaseTerm m.Raft.Log.Entries m.Raft.Commit m.Raft.Snap m.Raft.Granted m.Raft.Next m.Raft.Match m.Raft.Clock m.Raft.Wait m.f_out) 7 (.tup []) (zoi r.Raft.Id r.Raft.N r.Raft.Term r.Raft.Vote r.Raft.Role r.Raft.Lead r.Raft.Log.Base r.Raft.Log.BaseTerm r.Raft.Log.Entries r.Raft.Commit r.Raft.Snap r.Raft.Granted r.Raft.Next r.Raft.Match r.Raft.Clock r.Raft.Wait r.f_out) 8:=by
  refine Spec.intro Go.Proofs.Try.func76 i76_ok (le_of_ble rfl) ?_
  show Wp Pg 24 7 i76_B ⟨argEnv _ i76_V,[],_,_⟩ (qf_76_v3 r)
  unfold zbx at h
  unfold i76_B
  refine weakP [.movc 0 16] ?_
  refine Wp.seq (regP (seqN (Wp.seq ?_)))
  refine regP (seqN ?_)
  replace h:=reqS h; obtain ⟨g1,h⟩:=h
  replace h:=retS h; subst h
  refine drawP [] mixed (clsN _) ?_
  exact finW [.kill [0,1,2,5],.tidy]
noncomputable abbrev qf_81(r:Bool):Ex→St→Prop:=FinQ 0 [.tmp 6] (.bool r) [] 0
theorem zll{l:TLog}{term:Int}{at0:Int}{r:Bool} (h:zhh l term at0=some r):Spec Pg 81 [.agg [.int .i64 l.Base,.int .i64 l.BaseTerm,sl TEntry.c l.Entries],.int .i64 term,.int .i64 at0] [] 0 (.bool r) [] 0:=by
  refine Spec.intro Go.Proofs.Try.func81 i81_ok (le_of_ble rfl) ?_
  show Wp Pg 24 0 i81_B ⟨argEnv _ i81_V,[],_,_⟩ (qf_81 r)
  unfold zhh at h
  unfold i81_B
  refine weakP [] ?_
  refine Wp.seq (regP (seqN (Wp.seq (Wp.reg ?_))))
  replace h:=bndS h; obtain ⟨r0,g1,h⟩:=h
  refine chunkT 2 (tab_cons (zie g1) (tab_nil _)) ?_
  refine lastT (tab_nil _) (seqN (Wp.seq (Wp.reg ?_)))
  replace h:=ifS h; rcases h with ⟨g2,h⟩ | ⟨g2,h⟩
  ·replace h:=retS h; subst h
   refine lastT (tab_nil _) (seqN (Wp.ret ?_))
   exact finP
  ·replace h:=ifS h; rcases h with ⟨g3,h⟩ | ⟨g3,h⟩
   ·replace h:=bndS h; obtain ⟨r0_1,g4,h⟩:=h
    replace h:=retS h; subst h
    refine chunkT 11 (tab_cons (zbg g4) (tab_nil _)) ?_
    refine lastT (tab_nil _) (seqN (Wp.ret ?_))
    exact finP
   ·replace h:=retS h; subst h
    refine lastT (tab_nil _) (seqN (Wp.ret ?_))
    exact finP
noncomputable abbrev qf_67_v0(r:Tmember):Ex→St→Prop:=FinQ 7 [] (.tup []) (zoi r.Raft.Id r.Raft.N r.Raft.Term r.Raft.Vote r.Raft.Role r.Raft.Lead r.Raft.Log.Base r.Raft.Log.BaseTerm r.Raft.Log.Entries r.Raft.Commit r.Raft.Snap r.Raft.Granted r.Raft.Next r.Raft.Match r.Raft.Clock r.Raft.Wait r.f_out) 8
theorem zjv{x0:TMsg}{m:Tmember}{ok_1:Bool}{term:Int}{r:Tmember} (h:zcm x0 m ok_1 term=some r):Wp Pg 67 7 (.reg none i67_R6) ⟨[(0,.ptr 0 0),(1,.bad),(3,.ptr 8 0),(4,.bad),(5,.bool ok_1),(6,.int .i64 term),(57,.bad)],[],(zpu m.Raft.Id m.Raft.N m.Raft.Term m.Raft.Vote m.Raft.Role m.Raft.Lead m.Raft.Log.Base m.Raft.Log.BaseTerm m.Raft.Log.Entries m.Raft.Commit m.Raft.Snap m.Raft.Granted m.Raft.Next m.Raft.Match m.Raft.Clock m.Raft.Wait m.f_out x0.Kind x0.Group x0.From x0.To x0.Term x0.At x0.AtTerm x0.Commit x0.Ok x0.Entries x0.Data),9⟩ (qf_67_v0 r):=by
  unfold zcm at h
  refine Wp.reg ?_
  replace h:=bndS h; obtain ⟨r0_1,g7,h⟩:=h
  replace h:=retS h; subst h
  refine lastF (tab_cons (zhq g7) (tab_nil _)) ?_
  exact finW [.kill [0,3,5,6],.tidy]
theorem zhk{x0:TMsg}{m:Tmember}{ok:Bool}{r:Tmember} (h:zbu x0 m ok=some r):Wp Pg 67 7 (.seq (.reg none i67_R3) (.seq (.seq (.reg none i67_R4) (.cond (.t 57) (.reg none i67_R5) .skip)) (.reg none i67_R6))) ⟨[(0,.ptr 0 0),(1,.bad),(3,.ptr 8 0),(4,.bad),(5,.bool ok),(6,.bad),(57,.bad)],[],(zpu m.Raft.Id m.Raft.N m.Raft.Term m.Raft.Vote m.Raft.Role m.Raft.Lead m.Raft.Log.Base m.Raft.Log.BaseTerm m.Raft.Log.Entries m.Raft.Commit m.Raft.Snap m.Raft.Granted m.Raft.Next m.Raft.Match m.Raft.Clock m.Raft.Wait m.f_out x0.Kind x0.Group x0.From x0.To x0.Term x0.At x0.AtTerm x0.Commit x0.Ok x0.Entries x0.Data),9⟩ (qf_67_v0 r):=by
  unfold zbu at h
  refine Wp.seq (regP (seqN (Wp.seq (Wp.seq ?_))))
  refine regP (seqN ?_)
  replace h:=ifS h; rcases h with ⟨g6,h⟩ | ⟨g6,h⟩
  ·refine condTP ?_
   refine regP (seqN ?_)
   exact jumpK [.kill [57]] (zjv h)
  ·refine condFP (Wp.skip (seqN ?_))
   exact jumpK [.kill [57]] (zjv h)
theorem zhl{x0:TMsg}{m:Tmember}{free:Bool}{r:Tmember} (h:zbv x0 m free=some r):Wp Pg 67 7 (.seq (.reg (some []) i67_R2) (.seq (.reg none i67_R3) (.seq (.seq (.reg none i67_R4) (.cond (.t 57) (.reg none i67_R5) .skip)) (.reg none i67_R6)))) ⟨[(0,.ptr 0 0),(1,.bad),(3,.ptr 8 0),(4,.bool free),(5,.bad),(6,.bad),(57,.bad)],[],(zpu m.Raft.Id m.Raft.N m.Raft.Term m.Raft.Vote m.Raft.Role m.Raft.Lead m.Raft.Log.Base m.Raft.Log.BaseTerm m.Raft.Log.Entries m.Raft.Commit m.Raft.Snap m.Raft.Granted m.Raft.Next m.Raft.Match m.Raft.Clock m.Raft.Wait m.f_out x0.Kind x0.Group x0.From x0.To x0.Term x0.At x0.AtTerm x0.Commit x0.Ok x0.Entries x0.Data),9⟩ (qf_67_v0 r):=by
  unfold zbv at h
  refine Wp.seq ?_
  replace h:=ifS h; rcases h with ⟨g3,h⟩ | ⟨g3,h⟩
  ·replace h:=ifS h; rcases h with ⟨g4,h⟩ | ⟨g4,h⟩
   ·replace h:=bndS h; obtain ⟨r0,g5,h⟩:=h
    refine drawP [] mixed (clsC 21 (tab_cons (zll g5) (tab_nil _)) (clsN _)) (seqN ?_)
    exact jumpK [.kill [4],.tidy] (zhk h)
   ·refine drawP [] mixed (clsN _) (seqN ?_)
    exact jumpK [.kill [4],.tidy] (zhk h)
  ·refine drawP [] mixed (clsN _) (seqN ?_)
   exact jumpK [.kill [4],.tidy] (zhk h)
theorem zoe{x0:TMsg}{m:Tmember}{r:Tmember} (h:zeb x0 m=some r):Spec Pg 67 [.ptr 0 0,.agg [.int .i64 x0.Kind,.int .i64 x0.Group,.int .i64 x0.From,.int .i64 x0.To,.int .i64 x0.Term,.int .i64 x0.At,.int .i64 x0.AtTerm,.int .i64 x0.Commit,.bool x0.Ok,sl TEntry.c x0.Entries,sl (ci .u8) x0.Data]] (hp15 m.Raft.Id m.Raft.N m.Raft.Term m.Raft.Vote m.Raft.Role m.Raft.Lead m.Raft.Log.Base m.Raft.Log.BaseTerm m.Raft.Log.Entries m.Raft.Commit m.Raft.Snap m.Raft.Granted m.Raft.Next m.Raft.Match m.Raft.Clock m.Raft.Wait m.f_out) 7 (.tup []) (zoi r.Raft.Id r.Raft.N r.Raft.Term r.Raft.Vote r.Raft.Role r.Raft.Lead r.Raft.Log.Base r.Raft.Log.BaseTerm r.Raft.Log.Entries r.Raft.Commit r.Raft.Snap r.Raft.Granted r.Raft.Next r.Raft.Match r.Raft.Clock r.Raft.Wait r.f_out) 8:=by
  refine Spec.intro Go.Proofs.Try.func67 i67_ok (le_of_ble rfl) ?_
  show Wp Pg 67 7 i67_B ⟨argEnv _ i67_V,[],_,_⟩ (qf_67_v0 r)
  unfold zeb at h
  unfold i67_B
  refine weakP [.movc 0 16] ?_
  refine Wp.seq (regP (seqN (Wp.seq ?_)))
  replace h:=ifS h; rcases h with ⟨g1,h⟩ | ⟨g1,h⟩
  ·replace h:=ifS h; rcases h with ⟨g2,h⟩ | ⟨g2,h⟩
   ·refine regP (seqN ?_)
    exact jumpK [.kill [1,5,6,57],.tidy] (zhl h)
   ·refine regP (seqN ?_)
    exact jumpK [.kill [1,5,6,57],.tidy] (zhl h)
  ·refine regP (seqN ?_)
   exact jumpK [.kill [1,5,6,57],.tidy] (zhl h)
noncomputable abbrev qf_68_v1(r:(Bool × Tmember)):Ex→St→Prop:=FinQ 7 [.tmp 4] (.bool r.1) (hp15 r.2.Raft.Id r.2.Raft.N r.2.Raft.Term r.2.Raft.Vote r.2.Raft.Role r.2.Raft.Lead r.2.Raft.Log.Base r.2.Raft.Log.BaseTerm r.2.Raft.Log.Entries r.2.Raft.Commit r.2.Raft.Snap r.2.Raft.Granted r.2.Raft.Next r.2.Raft.Match r.2.Raft.Clock r.2.Raft.Wait r.2.f_out) 7
theorem zjw{who:Int}{m:Tmember}{r:(Bool × Tmember)} (h:zbw who m=some r):Spec Pg 68 [.ptr 0 0,.int .i64 who] (hp15 m.Raft.Id m.Raft.N m.Raft.Term m.Raft.Vote m.Raft.Role m.Raft.Lead m.Raft.Log.Base m.Raft.Log.BaseTerm m.Raft.Log.Entries m.Raft.Commit m.Raft.Snap m.Raft.Granted m.Raft.Next m.Raft.Match m.Raft.Clock m.Raft.Wait m.f_out) 7 (.bool r.1) (hp15 r.2.Raft.Id r.2.Raft.N r.2.Raft.Term r.2.Raft.Vote r.2.Raft.Role r.2.Raft.Lead r.2.Raft.Log.Base r.2.Raft.Log.BaseTerm r.2.Raft.Log.Entries r.2.Raft.Commit r.2.Raft.Snap r.2.Raft.Granted r.2.Raft.Next r.2.Raft.Match r.2.Raft.Clock r.2.Raft.Wait r.2.f_out) 7:=by
  refine Spec.intro Go.Proofs.Try.func68 i68_ok (le_of_ble rfl) ?_
  show Wp Pg 19 7 i68_B ⟨argEnv _ i68_V,[],_,_⟩ (qf_68_v1 r)
  unfold zbw at h
  unfold i68_B
  refine weakP [] ?_
  refine Wp.seq (regP (seqN (Wp.seq ?_)))
  replace h:=bndS h; obtain ⟨e,g1,h⟩:=h
  have:=ias_ownL (n:=1) (id:=3) (ex:=false) (k:=.i64) g1 rfl
  have:=ld_get (c:=cb) g1
  have:=set_get cb m.Raft.Granted (IntKind.i64.wrap (who - (1:Int))) true
  try simp only [EV,EVt, *] at this
  refine regP (seqN (Wp.seq (Wp.reg ?_)))
  replace h:=bndS h; obtain ⟨r0,g2,h⟩:=h
  replace h:=retS h; subst h
  refine chunkT 6 (tab_cons (zoc g2) (tab_nil _)) ?_
  refine lastT (tab_nil _) (seqN (Wp.ret ?_))
  exact finW [.kill [0,1],.tidy]
noncomputable abbrev qf_69_v1(r:Tmember):Ex→St→Prop:=FinQ 7 [] (.tup []) (zjz r.Raft.Id r.Raft.N r.Raft.Term r.Raft.Vote r.Raft.Role r.Raft.Lead r.Raft.Log.Base r.Raft.Log.BaseTerm r.Raft.Log.Entries r.Raft.Commit r.Raft.Snap r.Raft.Granted r.Raft.Next r.Raft.Match r.Raft.Clock r.Raft.Wait r.f_out) 11
theorem zmr{m:Tmember}{r:Tmember} (h:zee m=some r):Spec Pg 69 [.ptr 0 0] (hp15 m.Raft.Id m.Raft.N m.Raft.Term m.Raft.Vote m.Raft.Role m.Raft.Lead m.Raft.Log.Base m.Raft.Log.BaseTerm m.Raft.Log.Entries m.Raft.Commit m.Raft.Snap m.Raft.Granted m.Raft.Next m.Raft.Match m.Raft.Clock m.Raft.Wait m.f_out) 7 (.tup []) (zjz r.Raft.Id r.Raft.N r.Raft.Term r.Raft.Vote r.Raft.Role r.Raft.Lead r.Raft.Log.Base r.Raft.Log.BaseTerm r.Raft.Log.Entries r.Raft.Commit r.Raft.Snap r.Raft.Granted r.Raft.Next r.Raft.Match r.Raft.Clock r.Raft.Wait r.f_out) 11:=by
  refine Spec.intro Go.Proofs.Try.func69 i69_ok (le_of_ble rfl) ?_
  show Wp Pg 49 7 i69_B ⟨argEnv _ i69_V,[],_,_⟩ (qf_69_v1 r)
  unfold zee at h
  unfold i69_B
  refine weakP [.movc 0 11,.movc 0 12,.movc 0 13,.movc 0 16,.movc 0 8] ?_
  refine Wp.seq (regP (seqN (Wp.seq ?_)))
  replace h:=bndS h; obtain ⟨r0,g1,h⟩:=h
  refine drawP [66] mixed (clsC 7 (tab_cons (zeh g1) (tab_nil _)) (clsN _)) (seqN (Wp.seq ?_))
  refine drawP [] mixed (clsN _) (seqN (Wp.seq ?_))
  replace h:=reqS h; obtain ⟨g2,h⟩:=h
  refine drawP [] mixed (clsN _) (seqN (Wp.seq (Wp.seq ?_)))
  replace h:=bndS h; obtain ⟨r0_1,g3,h⟩:=h
  refine drawP [68] mixed (clsC 6 (tab_cons (zip g3) (tab_nil _)) (clsN _)) (seqN ?_)
  replace h:=ifS h; rcases h with ⟨g4,h⟩ | ⟨g4,h⟩
  ·refine condTP (Wp.seq (Wp.reg ?_))
   replace h:=bndS h; obtain ⟨r0_2,g5,h⟩:=h
   replace h:=retS h; subst h
   refine lastF (tab_cons (zlb g5) (tab_nil _)) (seqN (Wp.ret (seqR ?_)))
   exact finW [.kill [0,1,43],.tidy]
  ·refine condFP (Wp.skip (seqN (Wp.reg ?_)))
   replace h:=bndS h; obtain ⟨r0_3,g6,h⟩:=h
   replace h:=retS h; subst h
   refine lastF (tab_cons (zkp g6) (tab_nil _)) ?_
   exact finW [.cell 0 8 .frz,.kill [0,1,43],.tidy]
noncomputable abbrev qf_70_v0(r:Tmember):Ex→St→Prop:=FinQ 7 [] (.tup []) (zoi r.Raft.Id r.Raft.N r.Raft.Term r.Raft.Vote r.Raft.Role r.Raft.Lead r.Raft.Log.Base r.Raft.Log.BaseTerm r.Raft.Log.Entries r.Raft.Commit r.Raft.Snap r.Raft.Granted r.Raft.Next r.Raft.Match r.Raft.Clock r.Raft.Wait r.f_out) 8
theorem zke{x0:TMsg}{m:Tmember}{ok_1:Bool}{m_30 zd:Int}{r:Tmember} (h:zep x0 m ok_1 m_30 zd=some r):Wp Pg 73 7 (.reg (some []) i70_R4) ⟨[(0,.ptr 0 0),(1,.bad),(3,.ptr 8 0),(4,.bool ok_1),(51,.bad)],[],(zpu m.Raft.Id m.Raft.N m.Raft.Term m_30 m.Raft.Role m.Raft.Lead m.Raft.Log.Base m.Raft.Log.BaseTerm m.Raft.Log.Entries m.Raft.Commit m.Raft.Snap m.Raft.Granted m.Raft.Next m.Raft.Match zd m.Raft.Wait m.f_out x0.Kind x0.Group x0.From x0.To x0.Term x0.At x0.AtTerm x0.Commit x0.Ok x0.Entries x0.Data),9⟩ (qf_70_v0 r):=by
  unfold zep at h
  replace h:=bndS h; obtain ⟨r0_2,g8,h⟩:=h
  replace h:=retS h; subst h
  refine drawP [76] mixed (clsC 10 (tab_cons (zhq g8) (tab_nil _)) (clsN _)) ?_
  exact finW [.kill [0,3,4],.tidy]
theorem zdt{x0:TMsg}{m:Tmember}{ok:Bool}{r:Tmember} (h:zae x0 m ok=some r):Wp Pg 73 7 (.seq (.seq (.reg none i70_R2) (.cond (.t 51) (.reg none i70_R3) .skip)) (.reg (some []) i70_R4)) ⟨[(0,.ptr 0 0),(1,.bad),(3,.ptr 8 0),(4,.bool ok),(51,.bad)],[],(zpu m.Raft.Id m.Raft.N m.Raft.Term m.Raft.Vote m.Raft.Role m.Raft.Lead m.Raft.Log.Base m.Raft.Log.BaseTerm m.Raft.Log.Entries m.Raft.Commit m.Raft.Snap m.Raft.Granted m.Raft.Next m.Raft.Match m.Raft.Clock m.Raft.Wait m.f_out x0.Kind x0.Group x0.From x0.To x0.Term x0.At x0.AtTerm x0.Commit x0.Ok x0.Entries x0.Data),9⟩ (qf_70_v0 r):=by
  unfold zae at h
  refine Wp.seq (Wp.seq (regP (seqN ?_)))
  replace h:=ifS h; rcases h with ⟨g7,h⟩ | ⟨g7,h⟩
  ·refine condTP ?_
   refine regP (seqN ?_)
   exact jumpK [.kill [51]] (zke h)
  ·refine condFP (Wp.skip (seqN ?_))
   exact jumpK [.kill [51]] (zke h)
theorem zol{x0:TMsg}{m:Tmember}{r:Tmember} (h:zeq x0 m=some r):Spec Pg 70 [.ptr 0 0,.agg [.int .i64 x0.Kind,.int .i64 x0.Group,.int .i64 x0.From,.int .i64 x0.To,.int .i64 x0.Term,.int .i64 x0.At,.int .i64 x0.AtTerm,.int .i64 x0.Commit,.bool x0.Ok,sl TEntry.c x0.Entries,sl (ci .u8) x0.Data]] (hp15 m.Raft.Id m.Raft.N m.Raft.Term m.Raft.Vote m.Raft.Role m.Raft.Lead m.Raft.Log.Base m.Raft.Log.BaseTerm m.Raft.Log.Entries m.Raft.Commit m.Raft.Snap m.Raft.Granted m.Raft.Next m.Raft.Match m.Raft.Clock m.Raft.Wait m.f_out) 7 (.tup []) (zoi r.Raft.Id r.Raft.N r.Raft.Term r.Raft.Vote r.Raft.Role r.Raft.Lead r.Raft.Log.Base r.Raft.Log.BaseTerm r.Raft.Log.Entries r.Raft.Commit r.Raft.Snap r.Raft.Granted r.Raft.Next r.Raft.Match r.Raft.Clock r.Raft.Wait r.f_out) 8:=by
  refine Spec.intro Go.Proofs.Try.func70 i70_ok (le_of_ble rfl) ?_
  show Wp Pg 73 7 i70_B ⟨argEnv _ i70_V,[],_,_⟩ (qf_70_v0 r)
  unfold zeq at h
  unfold i70_B
  refine weakP [.movc 0 16] ?_
  refine Wp.seq (regP (seqN (Wp.seq ?_)))
  replace h:=ifS h; rcases h with ⟨g1,h⟩ | ⟨g1,h⟩
  ·replace h:=ifS h; rcases h with ⟨g2,h⟩ | ⟨g2,h⟩
   ·replace h:=ifS h; rcases h with ⟨g3,h⟩ | ⟨g3,h⟩
    ·replace h:=bndS h; obtain ⟨r0,g4,h⟩:=h
     refine drawP [] mixed (clsC 44 (tab_cons (zll g4) (tab_nil _)) (clsN _)) (seqN ?_)
     exact jumpK [.kill [1,51],.tidy] (zdt h)
    ·replace h:=ifS h; rcases h with ⟨g5,h⟩ | ⟨g5,h⟩
     ·replace h:=bndS h; obtain ⟨r0_1,g6,h⟩:=h
      refine drawP [] mixed (clsC 44 (tab_cons (zll g6) (tab_nil _)) (clsN _)) (seqN ?_)
      exact jumpK [.kill [1,51],.tidy] (zdt h)
     ·refine drawP [] mixed (clsN _) (seqN ?_)
      exact jumpK [.kill [1,51],.tidy] (zdt h)
   ·refine drawP [] mixed (clsN _) (seqN ?_)
    exact jumpK [.kill [1,51],.tidy] (zdt h)
  ·refine drawP [] mixed (clsN _) (seqN ?_)
   exact jumpK [.kill [1,51],.tidy] (zdt h)
noncomputable abbrev qf_71_v1(r:Tmember):Ex→St→Prop:=FinQ 7 [] (.tup []) (zjz r.Raft.Id r.Raft.N r.Raft.Term r.Raft.Vote r.Raft.Role r.Raft.Lead r.Raft.Log.Base r.Raft.Log.BaseTerm r.Raft.Log.Entries r.Raft.Commit r.Raft.Snap r.Raft.Granted r.Raft.Next r.Raft.Match r.Raft.Clock r.Raft.Wait r.f_out) 11
noncomputable abbrev zjb(r0:Tmember)(rec0:Int→(List Int)→Option Tmember)(r:Tmember):Prop:=∀ {v49:Int} {zc:(List Int)},rec0 v49 zc=some r→LWp Pg 69 7 i71_L0 ⟨[(0,.ptr 0 0),(2,.bad),(48,.int .i64 ((r0.Raft.N.toNat:Nat):Int)),(49,.int .i64 v49),(50,.bad)],[],(hp90 r0.Raft.Id r0.Raft.N r0.Raft.Term r0.Raft.Vote (3:Int) r0.Raft.Lead r0.Raft.Log.Base r0.Raft.Log.BaseTerm r0.Raft.Log.Entries r0.Raft.Commit r0.Raft.Snap r0.Raft.Granted zc (List.replicate r0.Raft.N.toNat (0:Int)) (0:Int) r0.Raft.Wait r0.f_out),12⟩ (blockQ 0 (seqQ Pg 69 7 (.reg none i71_R8) (qf_71_v1 r)))
theorem zlz{r0:Tmember}{zw:(List Int)}{r:Tmember} (h:zhi r0 zw=some r):Wp Pg 69 7 (.reg none i71_R8) ⟨[(0,.ptr 0 0),(2,.bad),(48,.bad),(49,.bad),(50,.bad)],[],(hp90 r0.Raft.Id r0.Raft.N r0.Raft.Term r0.Raft.Vote (3:Int) r0.Raft.Lead r0.Raft.Log.Base r0.Raft.Log.BaseTerm r0.Raft.Log.Entries r0.Raft.Commit r0.Raft.Snap r0.Raft.Granted zw (List.replicate r0.Raft.N.toNat (0:Int)) (0:Int) r0.Raft.Wait r0.f_out),12⟩ (qf_71_v1 r):=by
  unfold zhi at h
  refine Wp.reg ?_
  replace h:=bndS h; obtain ⟨r0_2,g6,h⟩:=h
  replace h:=retS h; subst h
  refine lastF (tab_cons (zkt g6) (tab_nil _)) ?_
  exact finW [.kill [0],.tidy]
theorem zlm{r0:Tmember}{r:Tmember} {zdl:Int→(List Int)→Option Tmember}(zli:zjb r0 zdl r){v49:Int}{zc:(List Int)}(h:zem r0 zdl v49 zc=some r):LWp Pg 69 7 i71_L0 ⟨[(0,.ptr 0 0),(2,.bad),(48,.int .i64 ((r0.Raft.N.toNat:Nat):Int)),(49,.int .i64 v49),(50,.bad)],[],(hp90 r0.Raft.Id r0.Raft.N r0.Raft.Term r0.Raft.Vote (3:Int) r0.Raft.Lead r0.Raft.Log.Base r0.Raft.Log.BaseTerm r0.Raft.Log.Entries r0.Raft.Commit r0.Raft.Snap r0.Raft.Granted zc (List.replicate r0.Raft.N.toNat (0:Int)) (0:Int) r0.Raft.Wait r0.f_out),12⟩ (blockQ 0 (seqQ Pg 69 7 (.reg none i71_R8) (qf_71_v1 r))):=by
  unfold zem at h
  refine LWp.stepC i71_L0.eq_1 ?_
  refine Wp.seq (regP (seqN (Wp.seq ?_)))
  replace h:=ifS h; rcases h with ⟨g3,h⟩ | ⟨g3,h⟩
  ·refine condTP (Wp.skip (seqN (Wp.seq (Wp.block (Wp.seq ?_)))))
   refine regP (seqN ?_)
   replace h:=bndS h; obtain ⟨r0_1,g4,h⟩:=h
   replace h:=bndS h; obtain ⟨e,g5,h⟩:=h
   have:=ias_ownL (n:=1) (id:=9) (ex:=true) (k:=.i64) g5 rfl
   have:=ld_get (c:=(ci .i64)) g5
   have:=set_get (ci .i64) zc v49 (IntKind.i64.wrap (r0_1 + (1:Int)))
   try simp only [EV,EVt, *] at this
   refine drawP [] mixed (clsC 11 (tab_cons (zbg g4) (tab_nil _)) (clsN _)) (blockN (seqN ?_))
   refine regP (loopN ?_)
   exact jumpL [.kill [2,50],.tidy] (zli h)
  ·refine condFP (Wp.out (seqO (loopO (blockO (seqN ?_)))))
   exact jumpK [.kill [48,49,50]] (zlz h)
theorem zma{r0:Tmember}{r:Tmember}:∀ (n:Nat),zjb r0 (zat r0 n) r:=by
  intro n
  induction n with
  | zero=>intro v49 zc h; unfold zat at h; cases h
  | succ n ih=>intro v49 zc h; unfold zat at h; exact zlm ih h
theorem znc{m:Tmember}{r:Tmember} (h:zcx m=some r):Spec Pg 71 [.ptr 0 0] (hp15 m.Raft.Id m.Raft.N m.Raft.Term m.Raft.Vote m.Raft.Role m.Raft.Lead m.Raft.Log.Base m.Raft.Log.BaseTerm m.Raft.Log.Entries m.Raft.Commit m.Raft.Snap m.Raft.Granted m.Raft.Next m.Raft.Match m.Raft.Clock m.Raft.Wait m.f_out) 7 (.tup []) (zjz r.Raft.Id r.Raft.N r.Raft.Term r.Raft.Vote r.Raft.Role r.Raft.Lead r.Raft.Log.Base r.Raft.Log.BaseTerm r.Raft.Log.Entries r.Raft.Commit r.Raft.Snap r.Raft.Granted r.Raft.Next r.Raft.Match r.Raft.Clock r.Raft.Wait r.f_out) 11:=by
  refine Spec.intro Go.Proofs.Try.func71 i71_ok (le_of_ble rfl) ?_
  show Wp Pg 69 7 i71_B ⟨argEnv _ i71_V,[],_,_⟩ (qf_71_v1 r)
  unfold zcx at h
  unfold i71_B
  refine weakP [.movc 0 11,.movc 0 12,.movc 0 13,.movc 0 16,.movc 0 8] ?_
  refine Wp.seq ?_
  replace h:=bndS h; obtain ⟨r0,g1,h⟩:=h
  refine drawP [66] mixed (clsC 11 (tab_cons (zeh g1) (tab_nil _)) (clsN _)) (seqN (Wp.seq ?_))
  refine regP (seqN (Wp.seq ?_))
  replace h:=reqS h; obtain ⟨g2,h⟩:=h
  refine drawP [] mixed (clsN _) (seqN (Wp.seq (Wp.seq ?_)))
  refine regP (seqN (Wp.block (Wp.loop ?_)))
  exact jumpL [.kill [2,50],.tidy] (zma _ h)
noncomputable abbrev qf_76_v4(r:Tmember):Ex→St→Prop:=FinQ 6 [] (.tup []) (hp86 r.Raft.Id r.Raft.N r.Raft.Term r.Raft.Vote r.Raft.Role r.Raft.Lead r.Raft.Log.Base r.Raft.Log.BaseTerm r.Raft.Log.Entries r.Raft.Commit r.Raft.Snap r.Raft.Granted r.Raft.Next r.Raft.Match r.Raft.Clock r.Raft.Wait r.f_out) 7
theorem zkf{to0:Int}{x0:TMsg}{m:Tmember}{r:Tmember} (h:zcy to0 x0 m=some r):Spec Pg 76 [.ptr 0 0,.int .i64 to0,.agg [.int .i64 x0.Kind,.int .i64 x0.Group,.int .i64 x0.From,.int .i64 x0.To,.int .i64 x0.Term,.int .i64 x0.At,.int .i64 x0.AtTerm,.int .i64 x0.Commit,.bool x0.Ok,.nil,.nil]] (hp99 m.Raft.Id m.Raft.N m.Raft.Term m.Raft.Vote m.Raft.Role m.Raft.Lead m.Raft.Log.Base m.Raft.Log.BaseTerm m.Raft.Log.Entries m.Raft.Commit m.Raft.Snap m.Raft.Granted m.Raft.Next m.Raft.Match m.Raft.Clock m.Raft.Wait m.f_out) 6 (.tup []) (hp86 r.Raft.Id r.Raft.N r.Raft.Term r.Raft.Vote r.Raft.Role r.Raft.Lead r.Raft.Log.Base r.Raft.Log.BaseTerm r.Raft.Log.Entries r.Raft.Commit r.Raft.Snap r.Raft.Granted r.Raft.Next r.Raft.Match r.Raft.Clock r.Raft.Wait r.f_out) 7:=by
  refine Spec.intro Go.Proofs.Try.func76 i76_ok (le_of_ble rfl) ?_
  show Wp Pg 24 6 i76_B ⟨argEnv _ i76_V,[],_,_⟩ (qf_76_v4 r)
  unfold zcy at h
  unfold i76_B
  refine weakP [.movc 0 16] ?_
  refine Wp.seq (regP (seqN (Wp.seq ?_)))
  refine regP (seqN ?_)
  replace h:=reqS h; obtain ⟨g1,h⟩:=h
  replace h:=retS h; subst h
  refine drawP [] mixed (clsN _) ?_
  exact finW [.kill [0,1,2,5],.tidy]
noncomputable abbrev qf_84_v0(r:(Bool × Tmember)):Ex→St→Prop:=FinQ 7 [.tmp 4] (.bool r.1) (zro r.2.Raft.Id r.2.Raft.N r.2.Raft.Term r.2.Raft.Vote r.2.Raft.Role r.2.Raft.Lead r.2.Raft.Log.Base r.2.Raft.Log.BaseTerm r.2.Raft.Log.Entries r.2.Raft.Commit r.2.Raft.Snap r.2.Raft.Granted r.2.Raft.Next r.2.Raft.Match r.2.Raft.Clock r.2.Raft.Wait r.2.f_out) 11
theorem zkg{x0:TMsg}{m:Tmember}{v20:Bool}{r:(Bool × Tmember)} (h:zcz x0 m v20=some r):Wp Pg 41 7 (.cond (.t 20) (.seq (.reg (some []) i84_R2) (.seq (.reg none i84_R3) .ret)) .skip) ⟨[(0,.ptr 0 0),(1,.bad),(3,.ptr 11 0),(4,.bad),(20,.bool v20)],[],(zrr m.Raft.Id m.Raft.N m.Raft.Term m.Raft.Vote m.Raft.Role m.Raft.Lead m.Raft.Log.Base m.Raft.Log.BaseTerm m.Raft.Log.Entries m.Raft.Commit m.Raft.Snap m.Raft.Granted m.Raft.Next m.Raft.Match m.Raft.Clock m.Raft.Wait m.f_out x0.Kind x0.Group x0.From x0.To x0.Term x0.At x0.AtTerm x0.Commit x0.Ok x0.Entries x0.Data),12⟩ (seqQ Pg 41 7 (.seq (.reg none i84_R4) (.seq (.reg none i84_R5) (.seq (.reg none i84_R6) .ret))) (qf_84_v0 r)):=by
  unfold zcz at h
  replace h:=ifS h; rcases h with ⟨g2,h⟩ | ⟨g2,h⟩
  ·refine condTP (Wp.seq ?_)
   replace h:=bndS h; obtain ⟨r0,g3,h⟩:=h
   replace h:=retS h; subst h
   refine drawP [76] mixed (clsC 9 (tab_cons (zhq g3) (tab_nil _)) (clsN _)) (seqN (Wp.seq ?_))
   refine regP (seqN (Wp.ret (seqR ?_)))
   exact finW [.kill [0,3,20],.tidy]
  ·refine condFP (Wp.skip (seqN (Wp.seq (Wp.reg ?_))))
   replace h:=bndS h; obtain ⟨r0_1,g4,h⟩:=h
   replace h:=retS h; subst h
   refine lastF (tab_cons (zeh g4) (tab_nil _)) (seqN (Wp.seq ?_))
   refine regP (seqN (Wp.seq ?_))
   refine regP (seqN (Wp.ret ?_))
   exact finW [.kill [0,3,20],.tidy]
theorem zlc{x0:TMsg}{m:Tmember}{r:(Bool × Tmember)} (h:zer x0 m=some r):Spec Pg 84 [.ptr 0 0,.agg [.int .i64 x0.Kind,.int .i64 x0.Group,.int .i64 x0.From,.int .i64 x0.To,.int .i64 x0.Term,.int .i64 x0.At,.int .i64 x0.AtTerm,.int .i64 x0.Commit,.bool x0.Ok,sl TEntry.c x0.Entries,sl (ci .u8) x0.Data]] (hp15 m.Raft.Id m.Raft.N m.Raft.Term m.Raft.Vote m.Raft.Role m.Raft.Lead m.Raft.Log.Base m.Raft.Log.BaseTerm m.Raft.Log.Entries m.Raft.Commit m.Raft.Snap m.Raft.Granted m.Raft.Next m.Raft.Match m.Raft.Clock m.Raft.Wait m.f_out) 7 (.bool r.1) (zro r.2.Raft.Id r.2.Raft.N r.2.Raft.Term r.2.Raft.Vote r.2.Raft.Role r.2.Raft.Lead r.2.Raft.Log.Base r.2.Raft.Log.BaseTerm r.2.Raft.Log.Entries r.2.Raft.Commit r.2.Raft.Snap r.2.Raft.Granted r.2.Raft.Next r.2.Raft.Match r.2.Raft.Clock r.2.Raft.Wait r.2.f_out) 11:=by
  refine Spec.intro Go.Proofs.Try.func84 i84_ok (le_of_ble rfl) ?_
  show Wp Pg 41 7 i84_B ⟨argEnv _ i84_V,[],_,_⟩ (qf_84_v0 r)
  unfold zer at h
  unfold i84_B
  refine weakP [.movc 0 11,.movc 0 12,.movc 0 13,.movc 0 16] ?_
  refine Wp.seq (regP (seqN (Wp.seq (Wp.seq ?_))))
  replace h:=ifS h; rcases h with ⟨g1,h⟩ | ⟨g1,h⟩
  ·refine drawP [] mixed (clsN _) (seqN ?_)
   exact jumpK [.kill [1,4],.tidy] (zkg h)
  ·refine drawP [] mixed (clsN _) (seqN ?_)
   exact jumpK [.kill [1,4],.tidy] (zkg h)
noncomputable abbrev qf_85(r:(TLog × Int × Bool)):Ex→St→Prop:=FinQ 0 [.cell 8 true 3,.tmp 9,.tmp 10] (.tup [.agg [.int .i64 r.1.Base,.int .i64 r.1.BaseTerm,sl TEntry.c r.1.Entries],.int .i64 r.2.1,.bool r.2.2]) [] 0
noncomputable abbrev zld(l:TLog)(r0_1:(Int × Bool))(rec0:Int→Int→Bool→Option (TLog × Int × Bool))(r:(TLog × Int × Bool)):Prop:=∀ {hint t:Int} {ok:Bool},rec0 hint t ok=some r→LWp Pg 141 0 i85_L0 ⟨[(0,.bad),(1,.bad),(2,.bad),(3,.bad),(4,.ptr 0 0),(8,.ptr 1 0),(9,.bad),(10,.bad),(11,.bad),(12,.int .i64 r0_1.1),(13,.bad),(14,.int .i64 hint),(15,.int .i64 t),(16,.bool ok),(17,.bad),(18,.bad),(19,.bad),(20,.bad),(24,.bad),(32,.bad),(51,.bad),(58,.bad),(78,.bad),(95,.bad),(96,.bad),(97,.bad),(98,.bad),(112,.bad),(121,.bad)],[],[(0,.box [.int .i64 l.Base,.int .i64 l.BaseTerm,sl TEntry.c l.Entries]),(1,.box [.int .i64 (0:Int),.int .i64 (0:Int),.nil])],2⟩ (blockQ 0 (seqQ Pg 141 0 (.seq (.reg (some [(1,4),(4,6)]) i85_R15) .ret) (seqQ Pg 141 0 (.seq (.reg none i85_R16) (.seq (.seq (.reg none i85_R17) (.block 2 (.loop i85_L1))) (.seq (.reg none i85_R26) .ret))) (qf_85 r))))
noncomputable abbrev znf(l:TLog)(at0_1:Int)(entries_1:(List TEntry))(r0_7:TLog)(rec0:Int→Option (TLog × Int × Bool))(r:(TLog × Int × Bool)):Prop:=∀ {v97:Int},rec0 v97=some r→LWp Pg 141 0 i85_L1 ⟨[(0,.bad),(1,.int .i64 at0_1),(2,.bad),(3,sl TEntry.c entries_1),(4,.ptr 0 0),(8,.ptr 1 0),(9,.bad),(10,.bad),(11,.bad),(12,.bad),(13,.bad),(14,.bad),(15,.bad),(16,.bad),(17,.ptr 2 0),(18,.bad),(19,.bad),(20,.bad),(24,.bad),(32,.bad),(51,.bad),(58,.bad),(78,.bad),(95,sl TEntry.c entries_1),(96,.int .i64 (entries_1.length:Int)),(97,.int .i64 v97),(98,.bad),(112,.bad),(121,.bad)],[],[(0,.box [.int .i64 l.Base,.int .i64 l.BaseTerm,sl TEntry.c l.Entries]),(1,.box [.int .i64 (0:Int),.int .i64 (0:Int),.nil]),(2,.box [.int .i64 r0_7.Base,.int .i64 r0_7.BaseTerm,.own 2 3 0 ((r0_7.Entries).length) false]),(3,.arr 2 (List.map TEntry.c r0_7.Entries) 0)],4⟩ (blockQ 2 (seqQ Pg 141 0 (.seq (.reg none i85_R26) .ret) (qf_85 r)))
theorem zng{at0_1:Int}{entries_1:(List TEntry)}{r0_7:TLog}{out_2_1:(List TEntry)}{r:(TLog × Int × Bool)} (h:zhr at0_1 entries_1 r0_7 out_2_1=some r):Wp Pg 141 0 (.seq (.reg none i85_R26) .ret) ⟨[(0,.bad),(1,.int .i64 at0_1),(2,.bad),(3,sl TEntry.c entries_1),(4,.bad),(8,.ptr 0 0),(9,.bad),(10,.bad),(11,.bad),(12,.bad),(13,.bad),(14,.bad),(15,.bad),(16,.bad),(17,.ptr 1 0),(18,.bad),(19,.bad),(20,.bad),(24,.bad),(32,.bad),(51,.bad),(58,.bad),(78,.bad),(95,.bad),(96,.bad),(97,.bad),(98,.bad),(112,.bad),(121,.bad)],[],[(0,.box [.int .i64 (0:Int),.int .i64 (0:Int),.nil]),(1,.box [.int .i64 r0_7.Base,.int .i64 r0_7.BaseTerm,.own 2 2 0 out_2_1.length false]),(2,.arr 2 (List.map TEntry.c out_2_1) 0)],3⟩ (qf_85 r):=by
  unfold zhr at h
  replace h:=retS h; subst h
  refine Wp.seq (regP (seqN ?_))
  refine weakP [.cell 8 2 .frz] (Wp.ret ?_)
  exact finP
theorem znh{at0_1:Int}{entries_1:(List TEntry)}{r0_7:TLog}{v97:Int}{out_2:(List TEntry)}{r:(TLog × Int × Bool)} (h:zhs at0_1 entries_1 r0_7 v97 out_2=some r):Wp Pg 141 0 (.seq (.reg (some [(1,5)]) i85_R24) (.out 2)) ⟨[(0,.bad),(1,.int .i64 at0_1),(2,.bad),(3,sl TEntry.c entries_1),(4,.bad),(8,.ptr 0 0),(9,.bad),(10,.bad),(11,.bad),(12,.bad),(13,.bad),(14,.bad),(15,.bad),(16,.bad),(17,.ptr 1 0),(18,.int .i64 v97),(19,.bad),(20,.bad),(24,.bad),(32,.bad),(51,.bad),(58,.bad),(78,.bad),(95,.bad),(96,.bad),(97,.bad),(98,.bad),(112,.bad),(121,.bad)],[],[(0,.box [.int .i64 (0:Int),.int .i64 (0:Int),.nil]),(1,.box [.int .i64 r0_7.Base,.int .i64 r0_7.BaseTerm,.own 2 2 0 out_2.length false]),(2,.arr 2 (List.map TEntry.c out_2) 0)],3⟩ (blockQ 3 (seqQ Pg 141 0 (.reg none i85_R25) (loopQ Pg 141 0 i85_L1 (blockQ 2 (seqQ Pg 141 0 (.seq (.reg none i85_R26) .ret) (qf_85 r)))))):=by
  unfold zhs at h
  refine Wp.seq ?_
  replace h:=bndS h; obtain ⟨l_3,g23,h⟩:=h
  replace h:=bndS h; obtain ⟨r0_8,g24,h⟩:=h
  replace h:=reqS h; obtain ⟨g25,h⟩:=h
  refine drawP [60] mixed (clsC 5 (tab_cons (zji g24) (tab_nil _)) (clsN _)) (seqN (Wp.out (blockP rfl (seqO (loopO (blockO (seqN ?_)))))))
  exact jumpK [.kill [18],.tidy] (zng h)
theorem zqa{l:TLog}{at0_1:Int}{entries_1:(List TEntry)}{r0_7:TLog}{r:(TLog × Int × Bool)} {zic:Int→Option (TLog × Int × Bool)}(zpj:znf l at0_1 entries_1 r0_7 zic r){v97:Int}(h:zhw l at0_1 entries_1 r0_7 zic v97=some r):LWp Pg 141 0 i85_L1 ⟨[(0,.bad),(1,.int .i64 at0_1),(2,.bad),(3,sl TEntry.c entries_1),(4,.ptr 0 0),(8,.ptr 1 0),(9,.bad),(10,.bad),(11,.bad),(12,.bad),(13,.bad),(14,.bad),(15,.bad),(16,.bad),(17,.ptr 2 0),(18,.bad),(19,.bad),(20,.bad),(24,.bad),(32,.bad),(51,.bad),(58,.bad),(78,.bad),(95,sl TEntry.c entries_1),(96,.int .i64 (entries_1.length:Int)),(97,.int .i64 v97),(98,.bad),(112,.bad),(121,.bad)],[],[(0,.box [.int .i64 l.Base,.int .i64 l.BaseTerm,sl TEntry.c l.Entries]),(1,.box [.int .i64 (0:Int),.int .i64 (0:Int),.nil]),(2,.box [.int .i64 r0_7.Base,.int .i64 r0_7.BaseTerm,.own 2 3 0 ((r0_7.Entries).length) false]),(3,.arr 2 (List.map TEntry.c r0_7.Entries) 0)],4⟩ (blockQ 2 (seqQ Pg 141 0 (.seq (.reg none i85_R26) .ret) (qf_85 r))):=by
  unfold zhw at h
  refine LWp.stepC i85_L1.eq_1 ?_
  refine Wp.seq (regP (seqN (Wp.seq ?_)))
  replace h:=ifS h; rcases h with ⟨g17,h⟩ | ⟨g17,h⟩
  ·refine condTP (Wp.skip (seqN (Wp.seq (Wp.block (Wp.seq ?_)))))
   replace h:=bndS h; obtain ⟨e,g18,h⟩:=h
   refine regP (seqN (Wp.seq ?_))
   refine regP (seqN (Wp.seq (Wp.seq ?_)))
   refine regP (seqN ?_)
   replace h:=ifS h; rcases h with ⟨g19,h⟩ | ⟨g19,h⟩
   ·refine condTP (Wp.seq (Wp.seq ?_))
    replace h:=bndS h; obtain ⟨e_1,g20,h⟩:=h
    have:=ias_ownL (n:=2) (id:=3) (ex:=false) (k:=.i64) g20 rfl
    have:=ld_get (c:=TEntry.c) g20
    refine drawP [] mixed (clsN _) (seqN ?_)
    replace h:=ifS h; rcases h with ⟨g21,h⟩ | ⟨g21,h⟩
    ·refine condTP (Wp.out (seqO (seqO (blockO (seqN ?_)))))
     refine regP (loopN ?_)
     exact jumpL [.kill [18,19,20,98,112,121],.tidy] (zpj h)
    ·refine condFP (Wp.skip (seqN ?_))
     replace h:=bndS h; obtain ⟨l_2,g22,h⟩:=h
     have:=sll_ownH (n:=2) (id:=3) (k:=.i64) g22
     have:=cut_map (c:=TEntry.c) g22
     refine regP (seqN ?_)
     exact jumpK [.cut 3 l_2.length,.kill [4,19,20,95,96,97,98,112,121],.tidy] (znh h)
   ·refine condFP (Wp.skip (seqN ?_))
    exact jumpK [.kill [4,19,20,95,96,97,98,112],.tidy] (znh h)
  ·refine condFP (Wp.out (seqO (loopO (blockO (seqN ?_)))))
   exact jumpK [.kill [4,95,96,97,98],.tidy] (zng h)
theorem zqv{l:TLog}{at0_1:Int}{entries_1:(List TEntry)}{r0_7:TLog}{r:(TLog × Int × Bool)}:∀ (n:Nat),znf l at0_1 entries_1 r0_7 (zfi l at0_1 entries_1 r0_7 n) r:=by
  intro n
  induction n with
  | zero=>intro v97 h; unfold zfi at h; cases h
  | succ n ih=>intro v97 h; unfold zfi at h; exact zqa ih h
theorem zqw{l:TLog}{hint_1:Int}{r:(TLog × Int × Bool)} (h:zix l hint_1=some r):Wp Pg 141 0 (.seq (.reg (some [(1,4),(4,6)]) i85_R15) .ret) ⟨[(0,.bad),(1,.bad),(2,.bad),(3,.bad),(4,.ptr 0 0),(8,.ptr 1 0),(9,.bad),(10,.bad),(11,.bad),(12,.bad),(13,.bad),(14,.int .i64 hint_1),(15,.bad),(16,.bad),(17,.bad),(18,.bad),(19,.bad),(20,.bad),(24,.bad),(32,.bad),(51,.bad),(58,.bad),(78,.bad),(95,.bad),(96,.bad),(97,.bad),(98,.bad),(112,.bad),(121,.bad)],[],[(0,.box [.int .i64 l.Base,.int .i64 l.BaseTerm,sl TEntry.c l.Entries]),(1,.box [.int .i64 (0:Int),.int .i64 (0:Int),.nil])],2⟩ (seqQ Pg 141 0 (.seq (.reg none i85_R16) (.seq (.seq (.reg none i85_R17) (.block 2 (.loop i85_L1))) (.seq (.reg none i85_R26) .ret))) (qf_85 r)):=by
  unfold zix at h
  refine Wp.seq ?_
  replace h:=bndS h; obtain ⟨r0_6,g15,h⟩:=h
  replace h:=retS h; subst h
  refine drawP [34] mixed (clsC 1 (tab_cons (zgi g15) (tab_nil _)) (clsN _)) (seqN ?_)
  refine weakP [.cell 8 2 .frz] (Wp.ret (seqR ?_))
  exact finP
theorem zle{r0_1:(Int × Bool)}{l:TLog}{hint:Int}{v78:Bool}{r:(TLog × Int × Bool)}{zay:Int→Int→Bool→Option (TLog × Int × Bool)}(zfz:zld l r0_1 zay r)(h:zbf zay l hint v78=some r):Wp Pg 141 0 (.cond (.t 78) .skip (.out 0)) ⟨[(0,.bad),(1,.bad),(2,.bad),(3,.bad),(4,.ptr 0 0),(8,.ptr 1 0),(9,.bad),(10,.bad),(11,.bad),(12,.int .i64 r0_1.1),(13,.bad),(14,.int .i64 hint),(15,.bad),(16,.bad),(17,.bad),(18,.bad),(19,.bad),(20,.bad),(24,.bad),(32,.bad),(51,.bad),(58,.bad),(78,.bool v78),(95,.bad),(96,.bad),(97,.bad),(98,.bad),(112,.bad),(121,.bad)],[],[(0,.box [.int .i64 l.Base,.int .i64 l.BaseTerm,sl TEntry.c l.Entries]),(1,.box [.int .i64 (0:Int),.int .i64 (0:Int),.nil])],2⟩ (seqQ Pg 141 0 (.seq (.block 1 (.reg none i85_R13)) (.reg none i85_R14)) (loopQ Pg 141 0 i85_L0 (blockQ 0 (seqQ Pg 141 0 (.seq (.reg (some [(1,4),(4,6)]) i85_R15) .ret) (seqQ Pg 141 0 (.seq (.reg none i85_R16) (.seq (.seq (.reg none i85_R17) (.block 2 (.loop i85_L1))) (.seq (.reg none i85_R26) .ret))) (qf_85 r)))))):=by
  unfold zbf at h
  replace h:=ifS h; rcases h with ⟨g13,h⟩ | ⟨g13,h⟩
  ·refine condTP (Wp.skip (seqN (Wp.seq (Wp.block ?_))))
   refine regP (blockN (seqN (Wp.reg ?_)))
   replace h:=bndS h; obtain ⟨r0_5,g14,h⟩:=h
   refine chunkT 3 (tab_cons (zcl g14) (tab_nil _)) ?_
   refine lastT (tab_nil _) (loopN ?_)
   exact jumpL [.kill [78]] (zfz h)
  ·refine condFP (Wp.out (seqO (loopO (blockO (seqN ?_)))))
   exact jumpK [.kill [12,78]] (zqw h)
theorem zqb{l:TLog}{r0_1:(Int × Bool)}{r:(TLog × Int × Bool)} {zay:Int→Int→Bool→Option (TLog × Int × Bool)}(zfz:zld l r0_1 zay r){hint t:Int}{ok:Bool}(h:zgc l r0_1 zay hint t ok=some r):LWp Pg 141 0 i85_L0 ⟨[(0,.bad),(1,.bad),(2,.bad),(3,.bad),(4,.ptr 0 0),(8,.ptr 1 0),(9,.bad),(10,.bad),(11,.bad),(12,.int .i64 r0_1.1),(13,.bad),(14,.int .i64 hint),(15,.int .i64 t),(16,.bool ok),(17,.bad),(18,.bad),(19,.bad),(20,.bad),(24,.bad),(32,.bad),(51,.bad),(58,.bad),(78,.bad),(95,.bad),(96,.bad),(97,.bad),(98,.bad),(112,.bad),(121,.bad)],[],[(0,.box [.int .i64 l.Base,.int .i64 l.BaseTerm,sl TEntry.c l.Entries]),(1,.box [.int .i64 (0:Int),.int .i64 (0:Int),.nil])],2⟩ (blockQ 0 (seqQ Pg 141 0 (.seq (.reg (some [(1,4),(4,6)]) i85_R15) .ret) (seqQ Pg 141 0 (.seq (.reg none i85_R16) (.seq (.seq (.reg none i85_R17) (.block 2 (.loop i85_L1))) (.seq (.reg none i85_R26) .ret))) (qf_85 r)))):=by
  unfold zgc at h
  refine LWp.stepC i85_L0.eq_1 ?_
  refine Wp.seq (Wp.seq ?_)
  replace h:=ifS h; rcases h with ⟨g11,h⟩ | ⟨g11,h⟩
  ·replace h:=ifS h; rcases h with ⟨g12,h⟩ | ⟨g12,h⟩
   ·refine regP (seqN ?_)
    exact jumpK [.kill [15,16]] (zle (r0_1:=r0_1) zfz h)
   ·refine regP (seqN ?_)
    exact jumpK [.kill [15,16]] (zle (r0_1:=r0_1) zfz h)
  ·refine regP (seqN ?_)
   exact jumpK [.kill [15,16]] (zle (r0_1:=r0_1) zfz h)
theorem zqx{l:TLog}{r0_1:(Int × Bool)}{r:(TLog × Int × Bool)}:∀ (n:Nat),zld l r0_1 (zah l r0_1 n) r:=by
  intro n
  induction n with
  | zero=>intro hint t ok h; unfold zah at h; cases h
  | succ n ih=>intro hint t ok h; unfold zah at h; exact zqb ih h
theorem zni{l:TLog}{at0_1 term_1:Int}{entries_1:(List TEntry)}{r:(TLog × Int × Bool)} (h:zht l at0_1 term_1 entries_1=some r):Wp Pg 141 0 (.seq (.reg none i85_R6) (.seq (.seq (.reg none i85_R7) (.cond (.t 51) (.seq (.reg (some [(1,2)]) i85_R8) .ret) .skip)) (.seq (.seq (.reg none i85_R9) (.cond (.t 58) (.seq (.reg none i85_R10) (.seq (.seq (.reg none i85_R11) (.block 0 (.loop i85_L0))) (.seq (.reg (some [(1,4),(4,6)]) i85_R15) .ret))) .skip)) (.seq (.reg none i85_R16) (.seq (.seq (.reg none i85_R17) (.block 2 (.loop i85_L1))) (.seq (.reg none i85_R26) .ret)))))) ⟨[(0,.bad),(1,.int .i64 at0_1),(2,.int .i64 term_1),(3,sl TEntry.c entries_1),(4,.ptr 0 0),(8,.ptr 1 0),(9,.bad),(10,.bad),(11,.bad),(12,.bad),(13,.bad),(14,.bad),(15,.bad),(16,.bad),(17,.bad),(18,.bad),(19,.bad),(20,.bad),(24,.bad),(32,.bad),(51,.bad),(58,.bad),(78,.bad),(95,.bad),(96,.bad),(97,.bad),(98,.bad),(112,.bad),(121,.bad)],[],[(0,.box [.int .i64 l.Base,.int .i64 l.BaseTerm,sl TEntry.c l.Entries]),(1,.box [.int .i64 (0:Int),.int .i64 (0:Int),.nil])],2⟩ (qf_85 r):=by
  unfold zht at h
  refine Wp.seq (Wp.reg ?_)
  replace h:=bndS h; obtain ⟨r0_1,g5,h⟩:=h
  refine chunkT 3 (tab_cons (zcl g5) (tab_nil _)) ?_
  refine lastT (tab_nil _) (seqN (Wp.seq (Wp.seq ?_)))
  refine regP (seqN ?_)
  replace h:=ifS h; rcases h with ⟨g6,h⟩ | ⟨g6,h⟩
  ·refine condFP (Wp.skip (seqN (Wp.seq (Wp.seq ?_))))
   refine regP (seqN ?_)
   replace h:=ifS h; rcases h with ⟨g9,h⟩ | ⟨g9,h⟩
   ·refine condTP (Wp.seq ?_)
    refine regP (seqN (Wp.seq (Wp.seq (Wp.reg ?_))))
    replace h:=bndS h; obtain ⟨r0_4,g10,h⟩:=h
    refine chunkT 3 (tab_cons (zcl g10) (tab_nil _)) ?_
    refine lastT (tab_nil _) (seqN (Wp.block (Wp.loop ?_)))
    exact jumpL [.kill [1,2,3,13,51,58]] (zqx _ h)
   ·refine condFP (Wp.skip (seqN (Wp.seq (Wp.reg ?_))))
    replace h:=bndS h; obtain ⟨r0_7,g16,h⟩:=h
    refine chunkF 2 (tab_cons (zgi g16) (tab_nil _)) ?_
    refine lastT (tab_nil _) (seqN (Wp.seq (Wp.seq ?_)))
    refine regP (seqN (Wp.block (Wp.loop ?_)))
    exact jumpL [.kill [2,12,13,51,58],.tidy] (zqv _ h)
  ·refine condTP (Wp.seq ?_)
   replace h:=bndS h; obtain ⟨r0_2,g7,h⟩:=h
   replace h:=bndS h; obtain ⟨r0_3,g8,h⟩:=h
   replace h:=retS h; subst h
   refine drawP [34] mixed (clsC 1 (tab_cons (zgi g7) (tab_nil _)) (clsC 3 (tab_cons (zbg g8) (tab_nil _)) (clsN _))) (seqN ?_)
   refine weakP [.cell 8 2 .frz] (Wp.ret (seqR ?_))
   exact finP
theorem zri{l:TLog}{at0:Int}{term:Int}{entries:(List TEntry)}{r:(TLog × Int × Bool)} (h:zky l at0 term entries=some r):Spec Pg 85 [.agg [.int .i64 l.Base,.int .i64 l.BaseTerm,sl TEntry.c l.Entries],.int .i64 at0,.int .i64 term,sl TEntry.c entries] [] 0 (.tup [.agg [.int .i64 r.1.Base,.int .i64 r.1.BaseTerm,sl TEntry.c r.1.Entries],.int .i64 r.2.1,.bool r.2.2]) [] 0:=by
  refine Spec.intro Go.Proofs.Try.func85 i85_ok (le_of_ble rfl) ?_
  show Wp Pg 141 0 i85_B ⟨argEnv _ i85_V,[],_,_⟩ (qf_85 r)
  unfold zky at h
  unfold i85_B
  refine weakP [] ?_
  refine Wp.seq (regP (seqN (Wp.seq (Wp.seq ?_))))
  refine regP (seqN ?_)
  replace h:=ifS h; rcases h with ⟨g1,h⟩ | ⟨g1,h⟩
  ·refine condTP (Wp.seq ?_)
   refine regP (seqN (Wp.seq (Wp.seq ?_)))
   refine regP (seqN ?_)
   replace h:=ifS h; rcases h with ⟨g2,h⟩ | ⟨g2,h⟩
   ·refine condTP (Wp.seq ?_)
    replace h:=bndS h; obtain ⟨r0,g3,h⟩:=h
    replace h:=retS h; subst h
    refine drawP [34] mixed (clsC 1 (tab_cons (zgi g3) (tab_nil _)) (clsN _)) (seqN ?_)
    refine weakP [.cell 8 2 .frz] (Wp.ret (seqR (seqR ?_)))
    exact finP
   ·refine condFP (Wp.skip (seqN ?_))
    replace h:=bndS h; obtain ⟨l_1,g4,h⟩:=h
    refine drawP [] mixed (clsN _) (seqN ?_)
    exact jumpK [.kill [0,9,10,11,12,13,14,15,16,17,18,19,20,24,32,51,58,78,95,96,97,98,112,121],.tidy] (zni h)
  ·refine condFP (Wp.skip (seqN ?_))
   exact jumpK [.kill [0,9,10,11,12,13,14,15,16,17,18,19,20,24,32,51,58,78,95,96,97,98,112,121],.tidy] (zni h)
noncomputable abbrev qf_72_v0(r:Tmember):Ex→St→Prop:=FinQ 7 [] (.tup []) (zjz r.Raft.Id r.Raft.N r.Raft.Term r.Raft.Vote r.Raft.Role r.Raft.Lead r.Raft.Log.Base r.Raft.Log.BaseTerm r.Raft.Log.Entries r.Raft.Commit r.Raft.Snap r.Raft.Granted r.Raft.Next r.Raft.Match r.Raft.Clock r.Raft.Wait r.f_out) 11
theorem zjc{x0:TMsg}{r0:(Bool × Tmember)}{r0_1:(TLog × Int × Bool)}{ok:Bool}{m_60 m_70:Int}{m_80:(List TEntry)}{m_90:Int}{r:Tmember} (h:zby x0 r0 r0_1 ok m_60 m_70 m_80 m_90=some r):Wp Pg 59 7 (.reg (some []) i72_R6) ⟨[(0,.ptr 0 0),(1,.bad),(3,.ptr 11 0),(4,.bad),(5,.int .i64 r0_1.2.1),(6,.bool ok),(10,.bad),(27,.bad)],[],(zrs r0.2.Raft.Id r0.2.Raft.N r0.2.Raft.Term r0.2.Raft.Vote r0.2.Raft.Role r0.2.Raft.Lead m_60 m_70 m_80 m_90 r0.2.Raft.Snap r0.2.Raft.Granted r0.2.Raft.Next r0.2.Raft.Match r0.2.Raft.Clock r0.2.Raft.Wait r0.2.f_out x0.Kind x0.Group x0.From x0.To x0.Term x0.At x0.AtTerm x0.Commit x0.Ok x0.Entries x0.Data r0.2.Raft.Log.Entries),12⟩ (qf_72_v0 r):=by
  unfold zby at h
  replace h:=bndS h; obtain ⟨r0_2,g5,h⟩:=h
  replace h:=retS h; subst h
  refine drawP [76] mixed (clsC 11 (tab_cons (zkf g5) (tab_nil _)) (clsN _)) ?_
  exact finW [.kill [0,3,5,6],.drop [1],.tidy]
theorem znd{x0:TMsg}{m:Tmember}{r:Tmember} (h:zda x0 m=some r):Spec Pg 72 [.ptr 0 0,.agg [.int .i64 x0.Kind,.int .i64 x0.Group,.int .i64 x0.From,.int .i64 x0.To,.int .i64 x0.Term,.int .i64 x0.At,.int .i64 x0.AtTerm,.int .i64 x0.Commit,.bool x0.Ok,sl TEntry.c x0.Entries,sl (ci .u8) x0.Data]] (hp15 m.Raft.Id m.Raft.N m.Raft.Term m.Raft.Vote m.Raft.Role m.Raft.Lead m.Raft.Log.Base m.Raft.Log.BaseTerm m.Raft.Log.Entries m.Raft.Commit m.Raft.Snap m.Raft.Granted m.Raft.Next m.Raft.Match m.Raft.Clock m.Raft.Wait m.f_out) 7 (.tup []) (zjz r.Raft.Id r.Raft.N r.Raft.Term r.Raft.Vote r.Raft.Role r.Raft.Lead r.Raft.Log.Base r.Raft.Log.BaseTerm r.Raft.Log.Entries r.Raft.Commit r.Raft.Snap r.Raft.Granted r.Raft.Next r.Raft.Match r.Raft.Clock r.Raft.Wait r.f_out) 11:=by
  refine Spec.intro Go.Proofs.Try.func72 i72_ok (le_of_ble rfl) ?_
  show Wp Pg 59 7 i72_B ⟨argEnv _ i72_V,[],_,_⟩ (qf_72_v0 r)
  unfold zda at h
  unfold i72_B
  refine weakP [.movc 0 11,.movc 0 12,.movc 0 13,.movc 0 16] ?_
  refine Wp.seq (regP (seqN (Wp.seq (Wp.seq (Wp.reg ?_)))))
  replace h:=bndS h; obtain ⟨r0,g1,h⟩:=h
  refine chunkF 3 (tab_cons (zlc g1) (tab_nil _)) ?_
  refine lastT (tab_nil _) (seqN ?_)
  replace h:=ifS h; rcases h with ⟨g2,h⟩ | ⟨g2,h⟩
  ·refine condFP (Wp.skip (seqN (Wp.seq ?_)))
   replace h:=bndS h; obtain ⟨r0_1,g3,h⟩:=h
   refine drawP [] mixed (clsC 11 (tab_cons (zri g3) (tab_nil _)) (clsN _)) (seqN (Wp.seq (Wp.seq ?_)))
   refine regP (seqN ?_)
   replace h:=ifS h; rcases h with ⟨g4,h⟩ | ⟨g4,h⟩
   ·refine condTP (Wp.seq ?_)
    refine regP (seqN ?_)
    refine drawP [] mixed (clsN _) (seqN ?_)
    exact jumpK [.kill [1,4,10,27],.tidy] (zjc h)
   ·refine condFP (Wp.skip (seqN ?_))
    exact jumpK [.kill [1,4,10,27],.cell 0 8 .frz,.tidy] (zjc h)
  ·replace h:=retS h; subst h
   refine condTP (Wp.ret (seqR ?_))
   exact finW [.cell 0 8 .frz,.kill [0,1,3,4,5,6,10,27],.drop [1],.tidy]
noncomputable abbrev qf_80_v2(r:Tmember):Ex→St→Prop:=FinQ 7 [] (.tup []) (hp15 r.Raft.Id r.Raft.N r.Raft.Term r.Raft.Vote r.Raft.Role r.Raft.Lead r.Raft.Log.Base r.Raft.Log.BaseTerm r.Raft.Log.Entries r.Raft.Commit r.Raft.Snap r.Raft.Granted r.Raft.Next r.Raft.Match r.Raft.Clock r.Raft.Wait r.f_out) 7
theorem zfs{m:Tmember}{r0:Int}{v39:Bool}{r:Tmember} (h:zck m r0 v39=some r):Wp Pg 45 7 (.cond (.t 39) (.reg none i80_R3) .skip) ⟨[(0,.ptr 0 0),(2,.int .i64 r0),(3,.bad),(4,.bad),(39,.bool v39)],[],(hp15 m.Raft.Id m.Raft.N m.Raft.Term m.Raft.Vote m.Raft.Role m.Raft.Lead m.Raft.Log.Base m.Raft.Log.BaseTerm m.Raft.Log.Entries m.Raft.Commit m.Raft.Snap m.Raft.Granted m.Raft.Next m.Raft.Match m.Raft.Clock m.Raft.Wait m.f_out),7⟩ (qf_80_v2 r):=by
  unfold zck at h
  replace h:=ifS h; rcases h with ⟨g5,h⟩ | ⟨g5,h⟩
  ·replace h:=retS h; subst h
   refine condTP ?_
   refine regP ?_
   exact finW [.kill [0,2,39],.tidy]
  ·replace h:=retS h; subst h
   refine condFP (Wp.skip ?_)
   exact finW [.kill [0,2,39],.tidy]
theorem zmo{m:Tmember}{r:Tmember} (h:zds m=some r):Spec Pg 80 [.ptr 0 0] (hp15 m.Raft.Id m.Raft.N m.Raft.Term m.Raft.Vote m.Raft.Role m.Raft.Lead m.Raft.Log.Base m.Raft.Log.BaseTerm m.Raft.Log.Entries m.Raft.Commit m.Raft.Snap m.Raft.Granted m.Raft.Next m.Raft.Match m.Raft.Clock m.Raft.Wait m.f_out) 7 (.tup []) (hp15 r.Raft.Id r.Raft.N r.Raft.Term r.Raft.Vote r.Raft.Role r.Raft.Lead r.Raft.Log.Base r.Raft.Log.BaseTerm r.Raft.Log.Entries r.Raft.Commit r.Raft.Snap r.Raft.Granted r.Raft.Next r.Raft.Match r.Raft.Clock r.Raft.Wait r.f_out) 7:=by
  refine Spec.intro Go.Proofs.Try.func80 i80_ok (le_of_ble rfl) ?_
  show Wp Pg 45 7 i80_B ⟨argEnv _ i80_V,[],_,_⟩ (qf_80_v2 r)
  unfold zds at h
  unfold i80_B
  refine weakP [] ?_
  refine Wp.seq (Wp.reg ?_)
  replace h:=bndS h; obtain ⟨r0,g1,h⟩:=h
  refine chunkT 6 (tab_cons (zju g1) (tab_nil _)) ?_
  refine lastT (tab_nil _) (seqN (Wp.seq (Wp.reg ?_)))
  replace h:=bndS h; obtain ⟨r0_1,g2,h⟩:=h
  refine chunkT 7 (tab_cons (zcl g2) (tab_nil _)) ?_
  refine lastT (tab_nil _) (seqN (Wp.seq ?_))
  replace h:=ifS h; rcases h with ⟨g3,h⟩ | ⟨g3,h⟩
  ·replace h:=ifS h; rcases h with ⟨g4,h⟩ | ⟨g4,h⟩
   ·refine regP (seqN ?_)
    exact jumpK [.kill [3,4]] (zfs h)
   ·refine regP (seqN ?_)
    exact jumpK [.kill [3,4]] (zfs h)
  ·refine regP (seqN ?_)
   exact jumpK [.kill [3,4]] (zfs h)
noncomputable abbrev qf_73_v0(r:Tmember):Ex→St→Prop:=FinQ 7 [] (.tup []) (hp44 r.Raft.Id r.Raft.N r.Raft.Term r.Raft.Vote r.Raft.Role r.Raft.Lead r.Raft.Log.Base r.Raft.Log.BaseTerm r.Raft.Log.Entries r.Raft.Commit r.Raft.Snap r.Raft.Granted r.Raft.Next r.Raft.Match r.Raft.Clock r.Raft.Wait r.f_out) 8
theorem zkh{x0:TMsg}{m_00 m_10 m_20 m_30 m_40 m_50 m_60 m_70 m_90 zd zh:Int}{ze:(List Int)}{zi:(List Bool)}{zc zj:(List Int)}{m_80:(List TEntry)}{zk:(List TMsg)}{r:Tmember} (h:zdb x0 m_00 m_10 m_20 m_30 m_40 m_50 m_60 m_70 m_90 zd zh ze zi zc zj m_80 zk=some r):Wp Pg 127 7 (.reg none i73_R9) ⟨[(0,.ptr 0 0),(1,.bad),(3,.ptr 9 0),(4,.bad),(20,.bad),(25,.bad),(92,.bad)],[],(zrk m_00 m_10 m_20 m_30 m_40 m_50 m_60 m_70 m_80 m_90 ze zi zc zj zd zh zk x0.Kind x0.Group x0.From x0.To x0.Term x0.At x0.AtTerm x0.Commit x0.Ok x0.Entries x0.Data),10⟩ (qf_73_v0 r):=by
  unfold zdb at h
  refine Wp.reg ?_
  replace h:=bndS h; obtain ⟨r0_3,g14,h⟩:=h
  replace h:=retS h; subst h
  refine lastF (tab_cons (zok g14) (tab_nil _)) ?_
  exact finW [.kill [0,3],.tidy]
theorem zki{x0:TMsg}{m:Tmember}{v20:Bool}{r:Tmember} (h:zbi x0 m v20=some r):Wp Pg 127 7 (.cond (.t 20) .ret .skip) ⟨[(0,.ptr 0 0),(1,.bad),(3,.ptr 9 0),(4,.bad),(20,.bool v20),(25,.bad),(92,.bad)],[],(zrk m.Raft.Id m.Raft.N m.Raft.Term m.Raft.Vote m.Raft.Role m.Raft.Lead m.Raft.Log.Base m.Raft.Log.BaseTerm m.Raft.Log.Entries m.Raft.Commit m.Raft.Snap m.Raft.Granted m.Raft.Next m.Raft.Match m.Raft.Clock m.Raft.Wait m.f_out x0.Kind x0.Group x0.From x0.To x0.Term x0.At x0.AtTerm x0.Commit x0.Ok x0.Entries x0.Data),10⟩ (seqQ Pg 127 7 (.seq (.reg none i73_R2) (.seq (.seq (.reg none i73_R3) (.cond (.t 25) (.seq (.reg (some [(4,21),(10,21),(13,21),(15,21)]) i73_R4) (.seq (.reg (some []) i73_R5) (.seq (.reg none i73_R6) (.seq (.reg (some [(4,13),(7,13)]) i73_R7) (.cond (.t 92) .ret .skip))))) (.reg (some []) i73_R8))) (.reg none i73_R9))) (qf_73_v0 r)):=by
  unfold zbi at h
  replace h:=ifS h; rcases h with ⟨g2,h⟩ | ⟨g2,h⟩
  ·replace h:=retS h; subst h
   refine condTP (Wp.ret (seqR ?_))
   exact finW [.cell 0 8 .frz,.kill [0,3,20],.tidy]
  ·refine condFP (Wp.skip (seqN (Wp.seq ?_)))
   refine regP (seqN (Wp.seq (Wp.seq ?_)))
   refine regP (seqN ?_)
   replace h:=ifS h; rcases h with ⟨g3,h⟩ | ⟨g3,h⟩
   ·refine condTP (Wp.seq ?_)
    replace h:=bndS h; obtain ⟨e,g4,h⟩:=h
    replace h:=bndS h; obtain ⟨r0,g5,h⟩:=h
    have:=ias_ownL (n:=1) (id:=5) (ex:=false) (k:=.i64) g4 rfl
    have:=ld_get (c:=(ci .i64)) g4
    have:=set_get (ci .i64) m.Raft.Match (IntKind.i64.wrap (x0.From - (1:Int))) (if e < (if r0 < x0.At then r0 else x0.At) then (if r0 < x0.At then r0 else x0.At) else e)
    try simp only [EV,EVt, *] at this
    refine drawP [] mixed (clsC 21 (tab_cons (zbg g5) (tab_nil _)) (clsN _)) (seqN (Wp.seq ?_))
    replace h:=bndS h; obtain ⟨e_1,g6,h⟩:=h
    replace h:=bndS h; obtain ⟨e_2,g7,h⟩:=h
    have:=ias_ownL (n:=1) (id:=4) (ex:=false) (k:=.i64) g6 rfl
    have:=ld_get (c:=(ci .i64)) g6
    have:=ias_ownL (n:=1) (id:=5) (ex:=false) (k:=.i64) g7 rfl
    try simp only [EV,EVt, *] at this
    have:=ld_get (c:=(ci .i64)) g7
    try simp only [EV,EVt, *] at this
    have:=set_get (ci .i64) m.Raft.Next (IntKind.i64.wrap (x0.From - (1:Int))) (if e_1 < (IntKind.i64.wrap (e_2 + (1:Int))) then (IntKind.i64.wrap (e_2 + (1:Int))) else e_1)
    try simp only [EV,EVt, *] at this
    refine drawP [] mixed (clsN _) (seqN (Wp.seq (Wp.reg ?_)))
    replace h:=bndS h; obtain ⟨r0_1,g8,h⟩:=h
    refine lastF (tab_cons (zmo g8) (tab_nil _)) (seqN (Wp.seq ?_))
    replace h:=bndS h; obtain ⟨e_3,g9,h⟩:=h
    replace h:=bndS h; obtain ⟨r0_2,g10,h⟩:=h
    have:=ias_ownL (n:=1) (id:=4) (ex:=false) (k:=.i64) g9 rfl
    have:=ld_get (c:=(ci .i64)) g9
    refine drawP [] mixed (clsC 13 (tab_cons (zbg g10) (tab_nil _)) (clsN _)) (seqN ?_)
    replace h:=ifS h; rcases h with ⟨g11,h⟩ | ⟨g11,h⟩
    ·replace h:=retS h; subst h
     refine condTP (Wp.ret (seqR ?_))
     exact finW [.cell 0 8 .frz,.kill [0,3,4,20,25,92],.tidy]
    ·refine condFP (Wp.skip (seqN ?_))
     exact jumpK [.kill [4,20,25,92],.tidy] (zkh h)
   ·refine condFP ?_
    replace h:=bndS h; obtain ⟨e_4,g12,h⟩:=h
    replace h:=bndS h; obtain ⟨e_5,g13,h⟩:=h
    have:=ias_ownL (n:=1) (id:=5) (ex:=false) (k:=.i64) g12 rfl
    have:=ld_get (c:=(ci .i64)) g12
    have:=ias_ownL (n:=1) (id:=4) (ex:=false) (k:=.i64) g13 rfl
    have:=ld_get (c:=(ci .i64)) g13
    have:=set_get (ci .i64) m.Raft.Next (IntKind.i64.wrap (x0.From - (1:Int))) (if (IntKind.i64.wrap (e_4 + (1:Int))) < (IntKind.i64.wrap ((if x0.At < (IntKind.i64.wrap (e_5 - (2:Int))) then x0.At else (IntKind.i64.wrap (e_5 - (2:Int)))) + (1:Int))) then (IntKind.i64.wrap ((if x0.At < (IntKind.i64.wrap (e_5 - (2:Int))) then x0.At else (IntKind.i64.wrap (e_5 - (2:Int)))) + (1:Int))) else (IntKind.i64.wrap (e_4 + (1:Int))))
    try simp only [EV,EVt, *] at this
    refine drawP [] mixed (clsN _) (seqN ?_)
    exact jumpK [.kill [4,20,25],.tidy] (zkh h)
theorem zom{x0:TMsg}{m:Tmember}{r:Tmember} (h:zes x0 m=some r):Spec Pg 73 [.ptr 0 0,.agg [.int .i64 x0.Kind,.int .i64 x0.Group,.int .i64 x0.From,.int .i64 x0.To,.int .i64 x0.Term,.int .i64 x0.At,.int .i64 x0.AtTerm,.int .i64 x0.Commit,.bool x0.Ok,sl TEntry.c x0.Entries,sl (ci .u8) x0.Data]] (hp15 m.Raft.Id m.Raft.N m.Raft.Term m.Raft.Vote m.Raft.Role m.Raft.Lead m.Raft.Log.Base m.Raft.Log.BaseTerm m.Raft.Log.Entries m.Raft.Commit m.Raft.Snap m.Raft.Granted m.Raft.Next m.Raft.Match m.Raft.Clock m.Raft.Wait m.f_out) 7 (.tup []) (hp44 r.Raft.Id r.Raft.N r.Raft.Term r.Raft.Vote r.Raft.Role r.Raft.Lead r.Raft.Log.Base r.Raft.Log.BaseTerm r.Raft.Log.Entries r.Raft.Commit r.Raft.Snap r.Raft.Granted r.Raft.Next r.Raft.Match r.Raft.Clock r.Raft.Wait r.f_out) 8:=by
  refine Spec.intro Go.Proofs.Try.func73 i73_ok (le_of_ble rfl) ?_
  show Wp Pg 127 7 i73_B ⟨argEnv _ i73_V,[],_,_⟩ (qf_73_v0 r)
  unfold zes at h
  unfold i73_B
  refine weakP [.movc 0 16,.movc 0 8] ?_
  refine Wp.seq (regP (seqN (Wp.seq (Wp.seq ?_))))
  replace h:=ifS h; rcases h with ⟨g1,h⟩ | ⟨g1,h⟩
  ·refine drawP [] mixed (clsN _) (seqN ?_)
   exact jumpK [.kill [1,4,25,92],.tidy] (zki h)
  ·refine drawP [] mixed (clsN _) (seqN ?_)
   exact jumpK [.kill [1,4,25,92],.tidy] (zki h)
noncomputable abbrev qf_56(r:(TLog × Int)):Ex→St→Prop:=FinQ 0 [.cell 4 true 3,.tmp 5] (.tup [.agg [.int .i64 r.1.Base,.int .i64 r.1.BaseTerm,sl TEntry.c r.1.Entries],.int .i64 r.2]) [] 0
theorem zms{l:TLog}{at0:Int}{r:(TLog × Int)} (h:zhe l at0=some r):Spec Pg 56 [.agg [.int .i64 l.Base,.int .i64 l.BaseTerm,sl TEntry.c l.Entries],.int .i64 at0] [] 0 (.tup [.agg [.int .i64 r.1.Base,.int .i64 r.1.BaseTerm,sl TEntry.c r.1.Entries],.int .i64 r.2]) [] 0:=by
  refine Spec.intro Go.Proofs.Try.func56 i56_ok (le_of_ble rfl) ?_
  show Wp Pg 28 0 i56_B ⟨argEnv _ i56_V,[],_,_⟩ (qf_56 r)
  unfold zhe at h
  unfold i56_B
  refine weakP [] ?_
  refine Wp.seq (regP (seqN (Wp.seq (Wp.reg ?_))))
  replace h:=bndS h; obtain ⟨r0,g1,h⟩:=h
  refine chunkT 3 (tab_cons (zcl g1) (tab_nil _)) ?_
  refine lastT (tab_nil _) (seqN (Wp.seq (Wp.seq ?_)))
  refine regP (seqN ?_)
  replace h:=ifS h; rcases h with ⟨g2,h⟩ | ⟨g2,h⟩
  ·refine condFP (Wp.skip (seqN (Wp.seq (Wp.reg ?_))))
   replace h:=bndS h; obtain ⟨l_1,g3,h⟩:=h
   replace h:=bndS h; obtain ⟨r0_1,g4,h⟩:=h
   replace h:=retS h; subst h
   refine chunkF 10 (tab_cons (zji g4) (tab_nil _)) ?_
   refine lastT (tab_nil _) (seqN ?_)
   refine weakP [.cell 4 2 .frz] (Wp.ret ?_)
   exact finP
  ·replace h:=retS h; subst h
   refine condTP (Wp.seq ?_)
   refine regP (seqN ?_)
   refine weakP [.cell 4 2 .frz] (Wp.ret (seqR ?_))
   exact finP
noncomputable abbrev qf_86(r:TLog):Ex→St→Prop:=FinQ 0 [.cell 6 true 3] (.agg [.int .i64 r.Base,.int .i64 r.BaseTerm,sl TEntry.c r.Entries]) [] 0
theorem zme{l:TLog}{at0 term:Int}{v22:Bool}{r:TLog} (h:zhx l at0 term v22=some r):Wp Pg 33 0 (.cond (.t 22) (.seq (.reg none i86_R3) (.seq (.reg none i86_R4) .ret)) .skip) ⟨[(0,.bad),(1,.int .i64 at0),(2,.int .i64 term),(3,.ptr 0 0),(6,.ptr 1 0),(7,.bad),(8,.bad),(9,.bad),(22,.bool v22)],[],[(0,.box [.int .i64 l.Base,.int .i64 l.BaseTerm,sl TEntry.c l.Entries]),(1,.box [.int .i64 (0:Int),.int .i64 (0:Int),.nil])],2⟩ (seqQ Pg 33 0 (.seq (.reg none i86_R5) .ret) (qf_86 r)):=by
  unfold zhx at h
  replace h:=ifS h; rcases h with ⟨g3,h⟩ | ⟨g3,h⟩
  ·refine condTP (Wp.seq (Wp.reg ?_))
   replace h:=bndS h; obtain ⟨r0_1,g4,h⟩:=h
   replace h:=retS h; subst h
   refine chunkT 3 (tab_cons (zms g4) (tab_nil _)) ?_
   refine lastT (tab_nil _) (seqN (Wp.seq ?_))
   refine regP (seqN (Wp.ret (seqR ?_)))
   exact finP
  ·replace h:=retS h; subst h
   refine condFP (Wp.skip (seqN (Wp.seq ?_)))
   refine regP (seqN ?_)
   refine weakP [.cell 6 2 .frz] (Wp.ret ?_)
   exact finP
theorem zra{l:TLog}{at0:Int}{term:Int}{r:TLog} (h:zjq l at0 term=some r):Spec Pg 86 [.agg [.int .i64 l.Base,.int .i64 l.BaseTerm,sl TEntry.c l.Entries],.int .i64 at0,.int .i64 term] [] 0 (.agg [.int .i64 r.Base,.int .i64 r.BaseTerm,sl TEntry.c r.Entries]) [] 0:=by
  refine Spec.intro Go.Proofs.Try.func86 i86_ok (le_of_ble rfl) ?_
  show Wp Pg 33 0 i86_B ⟨argEnv _ i86_V,[],_,_⟩ (qf_86 r)
  unfold zjq at h
  unfold i86_B
  refine weakP [] ?_
  refine Wp.seq (regP (seqN (Wp.seq (Wp.seq (Wp.reg ?_)))))
  replace h:=bndS h; obtain ⟨r0,g1,h⟩:=h
  refine chunkT 3 (tab_cons (zcl g1) (tab_nil _)) ?_
  refine lastT (tab_nil _) (seqN (Wp.seq ?_))
  replace h:=ifS h; rcases h with ⟨g2,h⟩ | ⟨g2,h⟩
  ·refine regP (seqN ?_)
   exact jumpK [.kill [0,7,8,9],.tidy] (zme h)
  ·refine regP (seqN ?_)
   exact jumpK [.kill [0,7,8,9],.tidy] (zme h)
noncomputable abbrev qf_74_v0(r:Tmember):Ex→St→Prop:=FinQ 7 [] (.tup []) (zrp r.Raft.Id r.Raft.N r.Raft.Term r.Raft.Vote r.Raft.Role r.Raft.Lead r.Raft.Log.Base r.Raft.Log.BaseTerm r.Raft.Log.Entries r.Raft.Commit r.Raft.Snap r.Raft.Granted r.Raft.Next r.Raft.Match r.Raft.Clock r.Raft.Wait r.f_out) 12
theorem zkj{x0:TMsg}{r0:(Bool × Tmember)}{m_60 m_70:Int}{m_80:(List TEntry)}{m_90:Int}{ze:(List Int)}{r:Tmember} (h:zdc x0 r0 m_60 m_70 m_80 m_90 ze=some r):Wp Pg 58 7 (.reg (some []) i74_R4) ⟨[(0,.ptr 0 0),(1,.bad),(3,.ptr 12 0),(7,.bad),(15,.bad)],[],(zrt r0.2.Raft.Id r0.2.Raft.N r0.2.Raft.Term r0.2.Raft.Vote r0.2.Raft.Role r0.2.Raft.Lead m_60 m_70 m_80 m_90 ze r0.2.Raft.Granted r0.2.Raft.Next r0.2.Raft.Match r0.2.Raft.Clock r0.2.Raft.Wait r0.2.f_out x0.Kind x0.Group x0.From x0.To x0.Term x0.At x0.AtTerm x0.Commit x0.Ok x0.Entries x0.Data r0.2.Raft.Log.Entries),13⟩ (qf_74_v0 r):=by
  unfold zdc at h
  replace h:=bndS h; obtain ⟨r0_2,g6,h⟩:=h
  replace h:=retS h; subst h
  refine drawP [76] mixed (clsC 14 (tab_cons (zkf g6) (tab_nil _)) (clsN _)) ?_
  exact finW [.kill [0,3],.drop [1],.tidy]
theorem zon{x0:TMsg}{m:Tmember}{r:Tmember} (h:zet x0 m=some r):Spec Pg 74 [.ptr 0 0,.agg [.int .i64 x0.Kind,.int .i64 x0.Group,.int .i64 x0.From,.int .i64 x0.To,.int .i64 x0.Term,.int .i64 x0.At,.int .i64 x0.AtTerm,.int .i64 x0.Commit,.bool x0.Ok,sl TEntry.c x0.Entries,sl (ci .u8) x0.Data]] (hp15 m.Raft.Id m.Raft.N m.Raft.Term m.Raft.Vote m.Raft.Role m.Raft.Lead m.Raft.Log.Base m.Raft.Log.BaseTerm m.Raft.Log.Entries m.Raft.Commit m.Raft.Snap m.Raft.Granted m.Raft.Next m.Raft.Match m.Raft.Clock m.Raft.Wait m.f_out) 7 (.tup []) (zrp r.Raft.Id r.Raft.N r.Raft.Term r.Raft.Vote r.Raft.Role r.Raft.Lead r.Raft.Log.Base r.Raft.Log.BaseTerm r.Raft.Log.Entries r.Raft.Commit r.Raft.Snap r.Raft.Granted r.Raft.Next r.Raft.Match r.Raft.Clock r.Raft.Wait r.f_out) 12:=by
  refine Spec.intro Go.Proofs.Try.func74 i74_ok (le_of_ble rfl) ?_
  show Wp Pg 58 7 i74_B ⟨argEnv _ i74_V,[],_,_⟩ (qf_74_v0 r)
  unfold zet at h
  unfold i74_B
  refine weakP [.movc 0 10,.movc 0 11,.movc 0 12,.movc 0 13,.movc 0 16] ?_
  refine Wp.seq (regP (seqN (Wp.seq (Wp.seq (Wp.reg ?_)))))
  replace h:=bndS h; obtain ⟨r0,g1,h⟩:=h
  refine chunkF 3 (tab_cons (zlc g1) (tab_nil _)) ?_
  refine lastT (tab_nil _) (seqN ?_)
  replace h:=ifS h; rcases h with ⟨g2,h⟩ | ⟨g2,h⟩
  ·refine condFP (Wp.skip (seqN (Wp.seq (Wp.seq ?_))))
   refine drawP [] mixed (clsN _) (seqN ?_)
   replace h:=ifS h; rcases h with ⟨g3,h⟩ | ⟨g3,h⟩
   ·refine condTP ?_
    replace h:=bndS h; obtain ⟨r0_1,g4,h⟩:=h
    replace h:=reqS h; obtain ⟨g5,h⟩:=h
    refine drawP [] mixed (clsC 12 (tab_cons (zra g4) (tab_nil _)) (clsN _)) (seqN ?_)
    exact jumpK [.kill [1,7,15],.tidy] (zkj h)
   ·refine condFP (Wp.skip (seqN ?_))
    exact jumpK [.kill [1,7,15],.cell 0 8 .frz,.tidy] (zkj h)
  ·replace h:=retS h; subst h
   refine condTP (Wp.ret (seqR ?_))
   exact finW [.cell 0 8 .frz,.kill [0,1,3,7,15],.drop [1],.tidy]
theorem znj{r:Bool}(h:zlx=some r):Spec Pg 10 [] [] 0 (.bool r) [] 0:=by
  obtain rfl:=retS h
  exact zpg
noncomputable abbrev qf_11(r:(TRaft × Int)):Ex→St→Prop:=FinQ 0 [.cell 4 true 16,.tmp 5] (.tup [.agg [.int .i64 r.1.Id,.int .i64 r.1.N,.int .i64 r.1.Term,.int .i64 r.1.Vote,.int .i64 r.1.Role,.int .i64 r.1.Lead,.int .i64 r.1.Log.Base,.int .i64 r.1.Log.BaseTerm,sl TEntry.c r.1.Log.Entries,.int .i64 r.1.Commit,sl (ci .u8) r.1.Snap,sl cb r.1.Granted,sl (ci .i64) r.1.Next,sl (ci .i64) r.1.Match,.int .i64 r.1.Clock,.int .i64 r.1.Wait],.int .i64 r.2]) [] 0
theorem zjp{id n0:Int}{v20:Bool}{r:(TRaft × Int)} (h:zgg id n0 v20=some r):Wp Pg 27 0 (.cond (.t 20) (.seq (.reg none i11_R2) .ret) .skip) ⟨[(0,.int .i64 id),(1,.int .i64 n0),(4,.ptr 0 0),(5,.bad),(20,.bool v20)],[],(hp6 (0:Int) (0:Int) (0:Int) (0:Int) (0:Int) (0:Int) (0:Int) (0:Int) (0:Int) (0:Int) (0:Int)),1⟩ (seqQ Pg 27 0 (.seq (.reg none i11_R3) .ret) (qf_11 r)):=by
  unfold zgg at h
  replace h:=ifS h; rcases h with ⟨g4,h⟩ | ⟨g4,h⟩
  ·replace h:=retS h; subst h
   refine condTP (Wp.seq ?_)
   refine regP (seqN ?_)
   refine weakP [.cell 4 8 .frz,.cell 4 10 .frz,.cell 4 11 .frz,.cell 4 12 .frz,.cell 4 13 .frz] (Wp.ret (seqR ?_))
   exact finP
  ·replace h:=retS h; subst h
   refine condFP (Wp.skip (seqN (Wp.seq ?_)))
   refine regP (seqN ?_)
   refine weakP [.cell 4 8 .frz,.cell 4 10 .frz,.cell 4 11 .frz,.cell 4 12 .frz,.cell 4 13 .frz] (Wp.ret ?_)
   exact finP
theorem zpk{id:Int}{n0:Int}{r:(TRaft × Int)} (h:zjx id n0=some r):Spec Pg 11 [.int .i64 id,.int .i64 n0] [] 0 (.tup [.agg [.int .i64 r.1.Id,.int .i64 r.1.N,.int .i64 r.1.Term,.int .i64 r.1.Vote,.int .i64 r.1.Role,.int .i64 r.1.Lead,.int .i64 r.1.Log.Base,.int .i64 r.1.Log.BaseTerm,sl TEntry.c r.1.Log.Entries,.int .i64 r.1.Commit,sl (ci .u8) r.1.Snap,sl cb r.1.Granted,sl (ci .i64) r.1.Next,sl (ci .i64) r.1.Match,.int .i64 r.1.Clock,.int .i64 r.1.Wait],.int .i64 r.2]) [] 0:=by
  refine Spec.intro Go.Proofs.Try.func11 i11_ok (le_of_ble rfl) ?_
  show Wp Pg 27 0 i11_B ⟨argEnv _ i11_V,[],_,_⟩ (qf_11 r)
  unfold zjx at h
  unfold i11_B
  refine weakP [] ?_
  refine Wp.seq (regP (seqN (Wp.seq (Wp.seq ?_))))
  replace h:=ifS h; rcases h with ⟨g1,h⟩ | ⟨g1,h⟩
  ·refine regP (seqN ?_)
   exact jumpK [.kill [5]] (zjp h)
  ·replace h:=ifS h; rcases h with ⟨g2,h⟩ | ⟨g2,h⟩
   ·refine regP (seqN ?_)
    exact jumpK [.kill [5]] (zjp h)
   ·replace h:=ifS h; rcases h with ⟨g3,h⟩ | ⟨g3,h⟩
    ·refine regP (seqN ?_)
     exact jumpK [.kill [5]] (zjp h)
    ·refine regP (seqN ?_)
     exact jumpK [.kill [5]] (zjp h)
noncomputable abbrev qf_33(r:Int):Ex→St→Prop:=FinQ 0 [.tmp 2] (.int .i64 r) [] 0
noncomputable abbrev zkl(l:TLog)(rec0:Int→Int→Option Int)(r:Int):Prop:=∀ {term v39:Int},rec0 term v39=some r→LWp Pg 55 0 i33_L0 ⟨[(0,.bad),(1,.bad),(2,.bad),(3,.int .i64 term),(5,.bad),(32,.bad),(37,sl TEntry.c l.Entries),(38,.int .i64 (l.Entries.length:Int)),(39,.int .i64 v39),(40,.bad),(51,.bad)],[],[],0⟩ (blockQ 0 (seqQ Pg 55 0 (.seq (.reg none i33_R11) .ret) (qf_33 r)))
theorem zmf{l:TLog}{v39:Int}{e:TEntry}{v51:Bool}{r:Int}{zav:Int→Int→Option Int}(zhc:zkl l zav r)(h:zgd zav v39 e v51=some r):Wp Pg 55 0 (.cond (.t 51) (.seq (.reg none i33_R8) .ret) .skip) ⟨[(0,.bad),(1,.bad),(2,.bad),(3,.bad),(5,.ptr 0 0),(32,.bad),(37,sl TEntry.c l.Entries),(38,.int .i64 (l.Entries.length:Int)),(39,.int .i64 v39),(40,.bad),(51,.bool v51)],[],[(0,.box [.int .i64 e.Term,sl (ci .u8) e.Data])],1⟩ (seqQ Pg 55 0 (.reg none i33_R9) (blockQ 1 (seqQ Pg 55 0 (.reg none i33_R10) (loopQ Pg 55 0 i33_L0 (blockQ 0 (seqQ Pg 55 0 (.seq (.reg none i33_R11) .ret) (qf_33 r))))))):=by
  unfold zgd at h
  replace h:=ifS h; rcases h with ⟨g9,h⟩ | ⟨g9,h⟩
  ·replace h:=retS h; subst h
   refine condTP (Wp.seq ?_)
   refine regP (seqN (Wp.ret (seqR (blockR (seqR (loopR (blockR (seqR ?_))))))))
   exact finP
  ·refine condFP (Wp.skip (seqN ?_))
   refine regP (blockN (seqN ?_))
   refine regP (loopN ?_)
   exact jumpL [.kill [5,51],.tidy] (zhc h)
theorem zov{l:TLog}{r:Int} {zav:Int→Int→Option Int}(zhc:zkl l zav r){term v39:Int}(h:zgl l zav term v39=some r):LWp Pg 55 0 i33_L0 ⟨[(0,.bad),(1,.bad),(2,.bad),(3,.int .i64 term),(5,.bad),(32,.bad),(37,sl TEntry.c l.Entries),(38,.int .i64 (l.Entries.length:Int)),(39,.int .i64 v39),(40,.bad),(51,.bad)],[],[],0⟩ (blockQ 0 (seqQ Pg 55 0 (.seq (.reg none i33_R11) .ret) (qf_33 r))):=by
  unfold zgl at h
  refine LWp.stepC i33_L0.eq_1 ?_
  refine Wp.seq (regP (seqN (Wp.seq ?_)))
  replace h:=ifS h; rcases h with ⟨g6,h⟩ | ⟨g6,h⟩
  ·refine condTP (Wp.skip (seqN (Wp.seq (Wp.block (Wp.seq ?_)))))
   replace h:=bndS h; obtain ⟨e,g7,h⟩:=h
   refine regP (seqN (Wp.seq (Wp.seq ?_)))
   replace h:=ifS h; rcases h with ⟨g8,h⟩ | ⟨g8,h⟩
   ·refine regP (seqN ?_)
    exact jumpK [.kill [3,40]] (zmf (l:=l) zhc h)
   ·refine regP (seqN ?_)
    exact jumpK [.kill [3,40]] (zmf (l:=l) zhc h)
  ·replace h:=retS h; subst h
   refine condFP (Wp.out (seqO (loopO (blockO (seqN (Wp.seq ?_))))))
   refine regP (seqN (Wp.ret ?_))
   exact finP
theorem zqc{l:TLog}{r:Int}:∀ (n:Nat),zkl l (zcs l n) r:=by
  intro n
  induction n with
  | zero=>intro term v39 h; unfold zcs at h; cases h
  | succ n ih=>intro term v39 h; unfold zcs at h; exact zov ih h
theorem zgm{l:TLog}{v32:Bool}{r:Int} (h:zct l v32=some r):Wp Pg 55 0 (.cond (.t 32) (.seq (.reg none i33_R2) .ret) .skip) ⟨[(0,.bad),(1,.ptr 0 0),(2,.bad),(3,.bad),(5,.bad),(32,.bool v32),(37,.bad),(38,.bad),(39,.bad),(40,.bad),(51,.bad)],[],[(0,.box [.int .i64 l.Base,.int .i64 l.BaseTerm,sl TEntry.c l.Entries])],1⟩ (seqQ Pg 55 0 (.seq (.reg none i33_R3) (.seq (.seq (.reg none i33_R4) (.block 0 (.loop i33_L0))) (.seq (.reg none i33_R11) .ret))) (qf_33 r)):=by
  unfold zct at h
  replace h:=ifS h; rcases h with ⟨g5,h⟩ | ⟨g5,h⟩
  ·replace h:=retS h; subst h
   refine condTP (Wp.seq ?_)
   refine regP (seqN (Wp.ret (seqR ?_)))
   exact finP
  ·refine condFP (Wp.skip (seqN (Wp.seq ?_)))
   refine regP (seqN (Wp.seq (Wp.seq ?_)))
   refine regP (seqN (Wp.block (Wp.loop ?_)))
   exact jumpL [.kill [1,32],.tidy] (zqc _ h)
theorem zrb{l:TLog}{r:Int} (h:zjr l=some r):Spec Pg 33 [.agg [.int .i64 l.Base,.int .i64 l.BaseTerm,sl TEntry.c l.Entries]] [] 0 (.int .i64 r) [] 0:=by
  refine Spec.intro Go.Proofs.Try.func33 i33_ok (le_of_ble rfl) ?_
  show Wp Pg 55 0 i33_B ⟨argEnv _ i33_V,[],_,_⟩ (qf_33 r)
  unfold zjr at h
  unfold i33_B
  refine weakP [] ?_
  refine Wp.seq (regP (seqN (Wp.seq (Wp.seq ?_))))
  replace h:=ifS h; rcases h with ⟨g1,h⟩ | ⟨g1,h⟩
  ·refine regP (seqN ?_)
   exact jumpK [.kill [0,2,3,5,37,38,39,40,51]] (zgm h)
  ·replace h:=ifS h; rcases h with ⟨g2,h⟩ | ⟨g2,h⟩
   ·refine regP (seqN ?_)
    exact jumpK [.kill [0,2,3,5,37,38,39,40,51]] (zgm h)
   ·replace h:=ifS h; rcases h with ⟨g3,h⟩ | ⟨g3,h⟩
    ·refine regP (seqN ?_)
     exact jumpK [.kill [0,2,3,5,37,38,39,40,51]] (zgm h)
    ·replace h:=ifS h; rcases h with ⟨g4,h⟩ | ⟨g4,h⟩
     ·refine regP (seqN ?_)
      exact jumpK [.kill [0,2,3,5,37,38,39,40,51]] (zgm h)
     ·refine regP (seqN ?_)
      exact jumpK [.kill [0,2,3,5,37,38,39,40,51]] (zgm h)
noncomputable abbrev qf_13(r:(TRaft × Int)):Ex→St→Prop:=FinQ 0 [.cell 12 true 16,.tmp 13] (.tup [.agg [.int .i64 r.1.Id,.int .i64 r.1.N,.int .i64 r.1.Term,.int .i64 r.1.Vote,.int .i64 r.1.Role,.int .i64 r.1.Lead,.int .i64 r.1.Log.Base,.int .i64 r.1.Log.BaseTerm,sl TEntry.c r.1.Log.Entries,.int .i64 r.1.Commit,sl (ci .u8) r.1.Snap,sl cb r.1.Granted,sl (ci .i64) r.1.Next,sl (ci .i64) r.1.Match,.int .i64 r.1.Clock,.int .i64 r.1.Wait],.int .i64 r.2]) [] 0
theorem zec{term vote:Int}{l:TLog}{snap:(List Int)}{r0:(TRaft × Int)}{v27:Bool}{r:(TRaft × Int)} (h:zaz term vote l snap r0 v27=some r):Wp Pg 69 0 (.cond (.t 27) (.seq (.reg none i13_R5) .ret) .skip) ⟨[(0,.bad),(1,.bad),(2,.int .i64 term),(3,.int .i64 vote),(4,.bad),(5,sl (ci .u8) snap),(10,.ptr 0 0),(12,.ptr 1 0),(13,.bad),(14,.ptr 2 0),(15,.bad),(22,.bad),(27,.bool v27)],[],(hp11 l.Base l.BaseTerm l.Entries (0:Int) (0:Int) (0:Int) (0:Int) (0:Int) (0:Int) (0:Int) (0:Int) (0:Int) (0:Int) (0:Int) r0.1.Id r0.1.N r0.1.Term r0.1.Vote r0.1.Role r0.1.Lead r0.1.Log.Base r0.1.Log.BaseTerm r0.1.Log.Entries r0.1.Commit r0.1.Snap r0.1.Granted r0.1.Next r0.1.Match r0.1.Clock r0.1.Wait),3⟩ (blockQ 0 (seqQ Pg 69 0 (.seq (.reg (some [(3,5),(5,7),(5,9),(5,11),(5,13)]) i13_R6) (.seq (.reg none i13_R7) .ret)) (qf_13 r))):=by
  unfold zaz at h
  replace h:=ifS h; rcases h with ⟨g10,h⟩ | ⟨g10,h⟩
  ·replace h:=retS h; subst h
   refine condTP (Wp.seq ?_)
   refine regP (seqN ?_)
   refine weakP [.cell 12 8 .frz,.cell 12 10 .frz,.cell 12 11 .frz,.cell 12 12 .frz,.cell 12 13 .frz] (Wp.ret (blockR (seqR ?_)))
   exact finP
  ·refine condFP (Wp.skip (blockN (seqN (Wp.seq ?_))))
   replace h:=bndS h; obtain ⟨r0_3,g11,h⟩:=h
   replace h:=reqS h; obtain ⟨g12,h⟩:=h
   replace h:=retS h; subst h
   refine drawP [34] mixed (clsC 3 (tab_cons (zgi g11) (tab_nil _)) (clsN _)) (seqN (Wp.seq ?_))
   refine regP (seqN ?_)
   refine weakP [.cell 12 8 .frz,.cell 12 10 .frz] (Wp.ret ?_)
   exact finP
theorem zqe{id:Int}{n0:Int}{term:Int}{vote:Int}{l:TLog}{snap:(List Int)}{r:(TRaft × Int)} (h:zhf id n0 term vote l snap=some r):Spec Pg 13 [.int .i64 id,.int .i64 n0,.int .i64 term,.int .i64 vote,.agg [.int .i64 l.Base,.int .i64 l.BaseTerm,sl TEntry.c l.Entries],sl (ci .u8) snap] [] 0 (.tup [.agg [.int .i64 r.1.Id,.int .i64 r.1.N,.int .i64 r.1.Term,.int .i64 r.1.Vote,.int .i64 r.1.Role,.int .i64 r.1.Lead,.int .i64 r.1.Log.Base,.int .i64 r.1.Log.BaseTerm,sl TEntry.c r.1.Log.Entries,.int .i64 r.1.Commit,sl (ci .u8) r.1.Snap,sl cb r.1.Granted,sl (ci .i64) r.1.Next,sl (ci .i64) r.1.Match,.int .i64 r.1.Clock,.int .i64 r.1.Wait],.int .i64 r.2]) [] 0:=by
  refine Spec.intro Go.Proofs.Try.func13 i13_ok (le_of_ble rfl) ?_
  show Wp Pg 69 0 i13_B ⟨argEnv _ i13_V,[],_,_⟩ (qf_13 r)
  unfold zhf at h
  unfold i13_B
  refine weakP [] ?_
  refine Wp.seq (regP (seqN (Wp.seq (Wp.reg ?_))))
  replace h:=bndS h; obtain ⟨r0,g1,h⟩:=h
  refine chunkT 3 (tab_cons (zpk g1) (tab_nil _)) ?_
  refine lastT (tab_nil _) (seqN (Wp.seq (Wp.block (Wp.seq ?_))))
  refine regP (seqN ?_)
  replace h:=ifS h; rcases h with ⟨g2,h⟩ | ⟨g2,h⟩
  ·replace h:=retS h; subst h
   refine condTP (Wp.seq ?_)
   refine regP (seqN ?_)
   refine weakP [.cell 12 8 .frz,.cell 12 10 .frz,.cell 12 11 .frz,.cell 12 12 .frz,.cell 12 13 .frz] (Wp.ret (blockR (seqR ?_)))
   exact finP
  ·refine condFP (Wp.seq (Wp.reg ?_))
   replace h:=ifS h; rcases h with ⟨g3,h⟩ | ⟨g3,h⟩
   ·refine lastT (tab_nil _) (seqN ?_)
    exact jumpK [.kill [0,1,4,13,15,22],.tidy] (zec h)
   ·replace h:=ifS h; rcases h with ⟨g4,h⟩ | ⟨g4,h⟩
    ·refine lastT (tab_nil _) (seqN ?_)
     exact jumpK [.kill [0,1,4,13,15,22],.tidy] (zec h)
    ·replace h:=ifS h; rcases h with ⟨g5,h⟩ | ⟨g5,h⟩
     ·refine lastT (tab_nil _) (seqN ?_)
      exact jumpK [.kill [0,1,4,13,15,22],.tidy] (zec h)
     ·replace h:=ifS h; rcases h with ⟨g6,h⟩ | ⟨g6,h⟩
      ·refine lastT (tab_nil _) (seqN ?_)
       exact jumpK [.kill [0,1,4,13,15,22],.tidy] (zec h)
      ·replace h:=bndS h; obtain ⟨r0_1,g7,h⟩:=h
       refine chunkT 18 (tab_cons (zie g7) (tab_nil _)) ?_
       replace h:=ifS h; rcases h with ⟨g8,h⟩ | ⟨g8,h⟩
       ·refine lastT (tab_nil _) (seqN ?_)
        exact jumpK [.kill [0,1,4,13,15,22],.tidy] (zec h)
       ·replace h:=bndS h; obtain ⟨r0_2,g9,h⟩:=h
        refine chunkT 6 (tab_cons (zrb g9) (tab_nil _)) ?_
        refine lastT (tab_nil _) (seqN ?_)
        exact jumpK [.kill [0,1,4,13,15,22],.tidy] (zec h)
noncomputable abbrev qf_17(r:Bool):Ex→St→Prop:=FinQ 0 [.tmp 2] (.bool r) [] 0
noncomputable abbrev zlv(l:(List TOp))(rec0:Int→Option Bool)(r:Bool):Prop:=∀ {i:Int},rec0 i=some r→LWp Pg 20 0 i17_L0 ⟨[(0,sl TOp.c l),(2,.bad),(3,.int .i64 i),(6,.bad),(10,.bad),(19,.bad)],[],[],0⟩ (blockQ 0 (seqQ Pg 20 0 (.seq (.reg none i17_R8) .ret) (qf_17 r)))
theorem zoo{l:(List TOp)}{r:Bool} {zgu:Int→Option Bool}(zof:zlv l zgu r){i:Int}(h:zfw l zgu i=some r):LWp Pg 20 0 i17_L0 ⟨[(0,sl TOp.c l),(2,.bad),(3,.int .i64 i),(6,.bad),(10,.bad),(19,.bad)],[],[],0⟩ (blockQ 0 (seqQ Pg 20 0 (.seq (.reg none i17_R8) .ret) (qf_17 r))):=by
  unfold zfw at h
  refine LWp.stepC i17_L0.eq_1 ?_
  refine Wp.seq (Wp.seq (regP (seqN ?_)))
  replace h:=ifS h; rcases h with ⟨g2,h⟩ | ⟨g2,h⟩
  ·refine condTP (Wp.skip (seqN (Wp.seq (Wp.block (Wp.seq ?_)))))
   replace h:=bndS h; obtain ⟨e,g3,h⟩:=h
   refine regP (seqN ?_)
   replace h:=ifS h; rcases h with ⟨g4,h⟩ | ⟨g4,h⟩
   ·replace h:=retS h; subst h
    refine condTP (Wp.seq ?_)
    refine regP (seqN (Wp.ret (blockR (seqR (loopR (blockR (seqR ?_)))))))
    exact finP
   ·refine condFP (Wp.skip (blockN (seqN ?_)))
    refine regP (loopN ?_)
    exact jumpL [.kill [10,19]] (zof h)
  ·replace h:=retS h; subst h
   refine condFP (Wp.out (seqO (loopO (blockO (seqN (Wp.seq ?_))))))
   refine regP (seqN (Wp.ret ?_))
   exact finP
theorem zpl{l:(List TOp)}{r:Bool}:∀ (n:Nat),zlv l (zdf l n) r:=by
  intro n
  induction n with
  | zero=>intro i h; unfold zdf at h; cases h
  | succ n ih=>intro i h; unfold zdf at h; exact zoo ih h
theorem zqy{l:(List TOp)}{r:Bool} (h:ziy l=some r):Spec Pg 17 [sl TOp.c l] [] 0 (.bool r) [] 0:=by
  refine Spec.intro Go.Proofs.Try.func17 i17_ok (le_of_ble rfl) ?_
  show Wp Pg 20 0 i17_B ⟨argEnv _ i17_V,[],_,_⟩ (qf_17 r)
  unfold ziy at h
  unfold i17_B
  refine weakP [] ?_
  refine Wp.seq (regP (seqN (Wp.seq (Wp.seq ?_))))
  refine regP (seqN ?_)
  replace h:=ifS h; rcases h with ⟨g1,h⟩ | ⟨g1,h⟩
  ·replace h:=retS h; subst h
   refine condTP (Wp.seq ?_)
   refine regP (seqN (Wp.ret (seqR ?_)))
   exact finP
  ·refine condFP (Wp.skip (seqN (Wp.seq (Wp.seq ?_))))
   refine regP (seqN (Wp.block (Wp.loop ?_)))
   exact jumpL [.kill [2,6,10,19]] (zpl _ h)
noncomputable abbrev qf_18(r:TWorld):Ex→St→Prop:=FinQ 0 [.cell 2 true 2] (.agg [sl TRaft.c r.R,sl TMsg.c r.Net]) [] 0
noncomputable abbrev zlw(n0:Int)(rec0:Int→(List TRaft)→Option TWorld)(r:TWorld):Prop:=∀ {i:Int} {w_00:(List TRaft)},rec0 i w_00=some r→LWp Pg 26 0 i18_L0 ⟨[(0,.int .i64 n0),(2,.ptr 0 0),(3,.ptr 1 0),(4,.int .i64 i),(5,.bad),(10,.bad)],[],[(0,.box [.nil,.nil]),(1,.box [.own 16 2 0 w_00.length false,.nil]),(2,.arr 16 (List.map TRaft.c w_00) 0)],3⟩ (blockQ 0 (seqQ Pg 26 0 (.seq (.reg none i18_R7) .ret) (qf_18 r)))
theorem zop{n0:Int}{r:TWorld} {zgv:Int→(List TRaft)→Option TWorld}(zog:zlw n0 zgv r){i:Int}{w_00:(List TRaft)}(h:zfx n0 zgv i w_00=some r):LWp Pg 26 0 i18_L0 ⟨[(0,.int .i64 n0),(2,.ptr 0 0),(3,.ptr 1 0),(4,.int .i64 i),(5,.bad),(10,.bad)],[],[(0,.box [.nil,.nil]),(1,.box [.own 16 2 0 w_00.length false,.nil]),(2,.arr 16 (List.map TRaft.c w_00) 0)],3⟩ (blockQ 0 (seqQ Pg 26 0 (.seq (.reg none i18_R7) .ret) (qf_18 r))):=by
  unfold zfx at h
  refine LWp.stepC i18_L0.eq_1 ?_
  refine Wp.seq (Wp.seq (regP (seqN ?_)))
  replace h:=ifS h; rcases h with ⟨g1,h⟩ | ⟨g1,h⟩
  ·refine condTP (Wp.skip (seqN (Wp.seq (Wp.block (Wp.seq (Wp.reg ?_))))))
   replace h:=bndS h; obtain ⟨r0,g2,h⟩:=h
   refine chunkT 3 (tab_cons (zpk g2) (tab_nil _)) ?_
   refine lastT (tab_nil _) (seqN ?_)
   replace h:=reqS h; obtain ⟨g3,h⟩:=h
   refine regP (blockN (seqN ?_))
   refine regP (loopN ?_)
   exact jumpL [.kill [5,10],.tidy] (zog h)
  ·replace h:=retS h; subst h
   refine condFP (Wp.out (seqO (loopO (blockO (seqN (Wp.seq ?_))))))
   refine regP (seqN ?_)
   refine weakP [.cell 2 0 .frz,.cell 2 1 .frz] (Wp.ret ?_)
   exact finP
theorem zpm{n0:Int}{r:TWorld}:∀ (n:Nat),zlw n0 (zdg n0 n) r:=by
  intro n
  induction n with
  | zero=>intro i w_00 h; unfold zdg at h; cases h
  | succ n ih=>intro i w_00 h; unfold zdg at h; exact zop ih h
theorem zqz{n0:Int}{r:TWorld} (h:ziz n0=some r):Spec Pg 18 [.int .i64 n0] [] 0 (.agg [sl TRaft.c r.R,sl TMsg.c r.Net]) [] 0:=by
  refine Spec.intro Go.Proofs.Try.func18 i18_ok (le_of_ble rfl) ?_
  show Wp Pg 26 0 i18_B ⟨argEnv _ i18_V,[],_,_⟩ (qf_18 r)
  unfold ziz at h
  unfold i18_B
  refine weakP [] ?_
  refine Wp.seq (regP (seqN (Wp.seq ?_)))
  refine regP (seqN (Wp.seq (Wp.seq ?_)))
  refine regP (seqN (Wp.block (Wp.loop ?_)))
  exact jumpL [.kill [5,10],.cell 3 0 (.virt 16),.tidy] (zpm _ h)
noncomputable abbrev qf_19(r:Int):Ex→St→Prop:=FinQ 0 [.tmp 2] (.int .i64 r) [] 0
theorem zrc{n0:Int}{r:Int} (h:zjs n0=some r):Spec Pg 19 [.int .u8 n0] [] 0 (.int .i64 r) [] 0:=by
  refine Spec.intro Go.Proofs.Try.func19 i19_ok (le_of_ble rfl) ?_
  show Wp Pg 7 0 i19_B ⟨argEnv _ i19_V,[],_,_⟩ (qf_19 r)
  unfold zjs at h
  unfold i19_B
  refine weakP [] ?_
  replace h:=retS h; subst h
  refine Wp.seq (regP (seqN (Wp.seq ?_)))
  refine regP (seqN (Wp.ret ?_))
  exact finP
noncomputable abbrev qf_28(r:(TRaft × (List TMsg))):Ex→St→Prop:=FinQ 0 [.cell 4 true 16,.tmp 5] (.tup [.agg [.int .i64 r.1.Id,.int .i64 r.1.N,.int .i64 r.1.Term,.int .i64 r.1.Vote,.int .i64 r.1.Role,.int .i64 r.1.Lead,.int .i64 r.1.Log.Base,.int .i64 r.1.Log.BaseTerm,sl TEntry.c r.1.Log.Entries,.int .i64 r.1.Commit,sl (ci .u8) r.1.Snap,sl cb r.1.Granted,sl (ci .i64) r.1.Next,sl (ci .i64) r.1.Match,.int .i64 r.1.Clock,.int .i64 r.1.Wait],sl TMsg.c r.2]) [] 0
theorem zkw{m_00 m_10 m_20 m_30 m_40 m_50 m_60 m_70:Int}{m_80:(List TEntry)}{m_90 zd zh:Int}{ze:(List Int)}{zi:(List Bool)}{zc zj:(List Int)}{zk:(List TMsg)}{r:(TRaft × (List TMsg))} (h:zij m_00 m_10 m_20 m_30 m_40 m_50 m_60 m_70 m_80 m_90 zd zh ze zi zc zj zk=some r):Wp Pg 68 0 (.seq (.reg none i28_R8) .ret) ⟨[(0,.bad),(1,.bad),(2,.bad),(4,.ptr 0 0),(5,.bad),(6,.ptr 1 0),(18,.bad),(41,.bad)],[],(hp95 (0:Int) (0:Int) (0:Int) (0:Int) (0:Int) (0:Int) (0:Int) (0:Int) (0:Int) (0:Int) (0:Int) m_00 m_10 m_20 m_30 m_40 m_50 m_60 m_70 m_80 m_90 ze zi zc zj zd zh zk),7⟩ (qf_28 r):=by
  unfold zij at h
  refine Wp.seq (Wp.reg ?_)
  replace h:=bndS h; obtain ⟨r0_4,g8,h⟩:=h
  replace h:=retS h; subst h
  refine chunkF 2 (tab_cons (ziw g8) (tab_nil _)) ?_
  refine lastT (tab_nil _) (seqN ?_)
  refine weakP [.cell 4 10 .frz,.cell 4 11 .frz,.cell 4 12 .frz,.cell 4 13 .frz,.at 5 .frz] (Wp.ret ?_)
  exact finP
theorem zmt{draw:Int}{r0_1:Tmember}{v41:Bool}{r:(TRaft × (List TMsg))} (h:zhg draw r0_1 v41=some r):Wp Pg 68 0 (.cond (.t 41) (.reg none i28_R7) .skip) ⟨[(0,.bad),(1,.int .i64 draw),(2,.bad),(4,.ptr 0 0),(5,.bad),(6,.ptr 1 0),(18,.bad),(41,.bool v41)],[],(hp13 (0:Int) (0:Int) (0:Int) (0:Int) (0:Int) (0:Int) (0:Int) (0:Int) (0:Int) (0:Int) (0:Int) r0_1.Raft.Id r0_1.Raft.N r0_1.Raft.Term r0_1.Raft.Vote r0_1.Raft.Role r0_1.Raft.Lead r0_1.Raft.Log.Base r0_1.Raft.Log.BaseTerm r0_1.Raft.Log.Entries r0_1.Raft.Commit r0_1.Raft.Snap r0_1.Raft.Granted r0_1.Raft.Next r0_1.Raft.Match (IntKind.i64.wrap (r0_1.Raft.Clock + (1:Int))) r0_1.Raft.Wait r0_1.f_out),8⟩ (blockQ 0 (seqQ Pg 68 0 (.seq (.reg none i28_R8) .ret) (qf_28 r))):=by
  unfold zhg at h
  replace h:=ifS h; rcases h with ⟨g6,h⟩ | ⟨g6,h⟩
  ·refine condTP (Wp.reg ?_)
   replace h:=bndS h; obtain ⟨r0_3,g7,h⟩:=h
   refine lastF (tab_cons (zou g7) (tab_nil _)) (blockN (seqN ?_))
   exact jumpK [.kill [1,41],.tidy] (zkw h)
  ·refine condFP (Wp.skip (blockN (seqN ?_)))
   exact jumpK [.kill [1,41],.cell 6 8 .frz,.tidy] (zkw h)
theorem zmu{draw:Int}{r0_1:Tmember}{v18:Bool}{r:(TRaft × (List TMsg))} (h:zik draw r0_1 v18=some r):Wp Pg 68 0 (.cond (.t 18) (.seq (.reg none i28_R4) (.reg none i28_R5)) (.seq (.reg (some []) i28_R6) (.cond (.t 41) (.reg none i28_R7) .skip))) ⟨[(0,.bad),(1,.int .i64 draw),(2,.bad),(4,.ptr 0 0),(5,.bad),(6,.ptr 1 0),(18,.bool v18),(41,.bad)],[],(hp13 (0:Int) (0:Int) (0:Int) (0:Int) (0:Int) (0:Int) (0:Int) (0:Int) (0:Int) (0:Int) (0:Int) r0_1.Raft.Id r0_1.Raft.N r0_1.Raft.Term r0_1.Raft.Vote r0_1.Raft.Role r0_1.Raft.Lead r0_1.Raft.Log.Base r0_1.Raft.Log.BaseTerm r0_1.Raft.Log.Entries r0_1.Raft.Commit r0_1.Raft.Snap r0_1.Raft.Granted r0_1.Raft.Next r0_1.Raft.Match (IntKind.i64.wrap (r0_1.Raft.Clock + (1:Int))) r0_1.Raft.Wait r0_1.f_out),8⟩ (blockQ 0 (seqQ Pg 68 0 (.seq (.reg none i28_R8) .ret) (qf_28 r))):=by
  unfold zik at h
  replace h:=ifS h; rcases h with ⟨g3,h⟩ | ⟨g3,h⟩
  ·refine condTP (Wp.seq ?_)
   refine regP (seqN (Wp.reg ?_))
   replace h:=bndS h; obtain ⟨r0_2,g4,h⟩:=h
   refine lastF (tab_cons (zor g4) (tab_nil _)) (blockN (seqN ?_))
   exact jumpK [.kill [1,18],.tidy] (zkw h)
  ·refine condFP (Wp.seq ?_)
   replace h:=ifS h; rcases h with ⟨g5,h⟩ | ⟨g5,h⟩
   ·refine drawP [] mixed (clsN _) (seqN ?_)
    exact jumpK [.kill [18],.tidy] (zmt h)
   ·refine drawP [] mixed (clsN _) (seqN ?_)
    exact jumpK [.kill [18],.tidy] (zmt h)
theorem zrg{r0:TRaft}{draw:Int}{r:(TRaft × (List TMsg))} (h:zkn r0 draw=some r):Spec Pg 28 [.agg [.int .i64 r0.Id,.int .i64 r0.N,.int .i64 r0.Term,.int .i64 r0.Vote,.int .i64 r0.Role,.int .i64 r0.Lead,.int .i64 r0.Log.Base,.int .i64 r0.Log.BaseTerm,sl TEntry.c r0.Log.Entries,.int .i64 r0.Commit,sl (ci .u8) r0.Snap,sl cb r0.Granted,sl (ci .i64) r0.Next,sl (ci .i64) r0.Match,.int .i64 r0.Clock,.int .i64 r0.Wait],.int .i64 draw] [] 0 (.tup [.agg [.int .i64 r.1.Id,.int .i64 r.1.N,.int .i64 r.1.Term,.int .i64 r.1.Vote,.int .i64 r.1.Role,.int .i64 r.1.Lead,.int .i64 r.1.Log.Base,.int .i64 r.1.Log.BaseTerm,sl TEntry.c r.1.Log.Entries,.int .i64 r.1.Commit,sl (ci .u8) r.1.Snap,sl cb r.1.Granted,sl (ci .i64) r.1.Next,sl (ci .i64) r.1.Match,.int .i64 r.1.Clock,.int .i64 r.1.Wait],sl TMsg.c r.2]) [] 0:=by
  refine Spec.intro Go.Proofs.Try.func28 i28_ok (le_of_ble rfl) ?_
  show Wp Pg 68 0 i28_B ⟨argEnv _ i28_V,[],_,_⟩ (qf_28 r)
  unfold zkn at h
  unfold i28_B
  refine weakP [] ?_
  refine Wp.seq (regP (seqN (Wp.seq (Wp.reg ?_))))
  replace h:=bndS h; obtain ⟨r0_1,g1,h⟩:=h
  refine chunkF 2 (tab_cons (zlp g1) (tab_nil _)) ?_
  refine lastT (tab_nil _) (seqN (Wp.seq ?_))
  refine regP (seqN (Wp.seq (Wp.block (Wp.seq ?_))))
  replace h:=ifS h; rcases h with ⟨g2,h⟩ | ⟨g2,h⟩
  ·refine regP (seqN ?_)
   exact jumpK [.kill [0,2,5,41],.tidy] (zmu h)
  ·refine regP (seqN ?_)
   exact jumpK [.kill [0,2,5,41],.tidy] (zmu h)
noncomputable abbrev qf_29(r:(TRaft × Int × (List TMsg) × Int)):Ex→St→Prop:=FinQ 0 [.cell 4 true 16,.tmp 5,.tmp 6,.tmp 7] (.tup [.agg [.int .i64 r.1.Id,.int .i64 r.1.N,.int .i64 r.1.Term,.int .i64 r.1.Vote,.int .i64 r.1.Role,.int .i64 r.1.Lead,.int .i64 r.1.Log.Base,.int .i64 r.1.Log.BaseTerm,sl TEntry.c r.1.Log.Entries,.int .i64 r.1.Commit,sl (ci .u8) r.1.Snap,sl cb r.1.Granted,sl (ci .i64) r.1.Next,sl (ci .i64) r.1.Match,.int .i64 r.1.Clock,.int .i64 r.1.Wait],.int .i64 r.2.1,sl TMsg.c r.2.2.1,.int .i64 r.2.2.2]) [] 0
theorem zqf{r0:TRaft}{data:(List Int)}{r:(TRaft × Int × (List TMsg) × Int)} (h:zil r0 data=some r):Spec Pg 29 [.agg [.int .i64 r0.Id,.int .i64 r0.N,.int .i64 r0.Term,.int .i64 r0.Vote,.int .i64 r0.Role,.int .i64 r0.Lead,.int .i64 r0.Log.Base,.int .i64 r0.Log.BaseTerm,sl TEntry.c r0.Log.Entries,.int .i64 r0.Commit,sl (ci .u8) r0.Snap,sl cb r0.Granted,sl (ci .i64) r0.Next,sl (ci .i64) r0.Match,.int .i64 r0.Clock,.int .i64 r0.Wait],sl (ci .u8) data] [] 0 (.tup [.agg [.int .i64 r.1.Id,.int .i64 r.1.N,.int .i64 r.1.Term,.int .i64 r.1.Vote,.int .i64 r.1.Role,.int .i64 r.1.Lead,.int .i64 r.1.Log.Base,.int .i64 r.1.Log.BaseTerm,sl TEntry.c r.1.Log.Entries,.int .i64 r.1.Commit,sl (ci .u8) r.1.Snap,sl cb r.1.Granted,sl (ci .i64) r.1.Next,sl (ci .i64) r.1.Match,.int .i64 r.1.Clock,.int .i64 r.1.Wait],.int .i64 r.2.1,sl TMsg.c r.2.2.1,.int .i64 r.2.2.2]) [] 0:=by
  refine Spec.intro Go.Proofs.Try.func29 i29_ok (le_of_ble rfl) ?_
  show Wp Pg 36 0 i29_B ⟨argEnv _ i29_V,[],_,_⟩ (qf_29 r)
  unfold zil at h
  unfold i29_B
  refine weakP [] ?_
  refine Wp.seq (regP (seqN (Wp.seq (Wp.reg ?_))))
  replace h:=bndS h; obtain ⟨r0_1,g1,h⟩:=h
  refine chunkF 2 (tab_cons (zlp g1) (tab_nil _)) ?_
  refine lastT (tab_nil _) (seqN (Wp.seq (Wp.seq ?_)))
  refine regP (seqN ?_)
  replace h:=ifS h; rcases h with ⟨g2,h⟩ | ⟨g2,h⟩
  ·replace h:=retS h; subst h
   refine condTP (Wp.seq ?_)
   refine regP (seqN ?_)
   refine weakP [.cell 4 8 .frz,.cell 4 10 .frz,.cell 4 11 .frz,.cell 4 12 .frz,.cell 4 13 .frz,.at 6 .frz] (Wp.ret (seqR ?_))
   exact finP
  ·refine condFP (Wp.skip (seqN (Wp.seq (Wp.reg ?_))))
   replace h:=bndS h; obtain ⟨r0_2,g3,h⟩:=h
   refine lastF (tab_cons (zmn g3) (tab_nil _)) (seqN (Wp.seq (Wp.reg ?_)))
   replace h:=bndS h; obtain ⟨r0_3,g4,h⟩:=h
   refine chunkF 2 (tab_cons (ziw g4) (tab_nil _)) ?_
   refine lastT (tab_nil _) (seqN (Wp.seq ?_))
   replace h:=bndS h; obtain ⟨r0_4,g5,h⟩:=h
   replace h:=retS h; subst h
   refine drawP [] mixed (clsC 3 (tab_cons (zbg g5) (tab_nil _)) (clsN _)) (seqN ?_)
   refine weakP [.cell 4 10 .frz,.cell 4 11 .frz,.cell 4 12 .frz,.cell 4 13 .frz,.at 6 .frz] (Wp.ret ?_)
   exact finP
noncomputable abbrev qf_30(r:(TRaft × Int)):Ex→St→Prop:=FinQ 0 [.cell 6 true 16,.tmp 7] (.tup [.agg [.int .i64 r.1.Id,.int .i64 r.1.N,.int .i64 r.1.Term,.int .i64 r.1.Vote,.int .i64 r.1.Role,.int .i64 r.1.Lead,.int .i64 r.1.Log.Base,.int .i64 r.1.Log.BaseTerm,sl TEntry.c r.1.Log.Entries,.int .i64 r.1.Commit,sl (ci .u8) r.1.Snap,sl cb r.1.Granted,sl (ci .i64) r.1.Next,sl (ci .i64) r.1.Match,.int .i64 r.1.Clock,.int .i64 r.1.Wait],.int .i64 r.2]) [] 0
theorem zlj{upto:Int}{snap:(List Int)}{r0_1:Tmember}{v29:Bool}{r:(TRaft × Int)} (h:zff upto snap r0_1 v29=some r):Wp Pg 66 0 (.cond (.t 29) (.seq (.reg none i30_R3) .ret) .skip) ⟨[(0,.bad),(1,.int .i64 upto),(2,sl (ci .u8) snap),(3,.bad),(6,.ptr 0 0),(7,.bad),(8,.ptr 1 0),(9,.bad),(10,.bad),(29,.bool v29),(45,.bad)],[],(hp13 (0:Int) (0:Int) (0:Int) (0:Int) (0:Int) (0:Int) (0:Int) (0:Int) (0:Int) (0:Int) (0:Int) r0_1.Raft.Id r0_1.Raft.N r0_1.Raft.Term r0_1.Raft.Vote r0_1.Raft.Role r0_1.Raft.Lead r0_1.Raft.Log.Base r0_1.Raft.Log.BaseTerm r0_1.Raft.Log.Entries r0_1.Raft.Commit r0_1.Raft.Snap r0_1.Raft.Granted r0_1.Raft.Next r0_1.Raft.Match r0_1.Raft.Clock r0_1.Raft.Wait r0_1.f_out),8⟩ (seqQ Pg 66 0 (.seq (.reg none i30_R4) (.seq (.seq (.reg none i30_R5) (.cond (.t 45) (.seq (.reg none i30_R6) .ret) .skip)) (.seq (.reg (some [(2,4)]) i30_R7) (.seq (.reg none i30_R8) .ret)))) (qf_30 r)):=by
  unfold zff at h
  replace h:=ifS h; rcases h with ⟨g3,h⟩ | ⟨g3,h⟩
  ·replace h:=retS h; subst h
   refine condTP (Wp.seq ?_)
   refine regP (seqN ?_)
   refine weakP [.cell 6 8 .frz,.cell 6 10 .frz,.cell 6 11 .frz,.cell 6 12 .frz,.cell 6 13 .frz] (Wp.ret (seqR ?_))
   exact finP
  ·refine condFP (Wp.skip (seqN (Wp.seq (Wp.reg ?_))))
   replace h:=bndS h; obtain ⟨r0_2,g4,h⟩:=h
   refine chunkT 7 (tab_cons (zms g4) (tab_nil _)) ?_
   refine lastT (tab_nil _) (seqN (Wp.seq (Wp.seq ?_)))
   refine regP (seqN ?_)
   replace h:=ifS h; rcases h with ⟨g5,h⟩ | ⟨g5,h⟩
   ·replace h:=retS h; subst h
    refine condTP (Wp.seq ?_)
    refine regP (seqN ?_)
    refine weakP [.cell 6 8 .frz,.cell 6 10 .frz,.cell 6 11 .frz,.cell 6 12 .frz,.cell 6 13 .frz] (Wp.ret (seqR ?_))
    exact finP
   ·refine condFP (Wp.skip (seqN (Wp.seq ?_)))
    replace h:=reqS h; obtain ⟨g6,h⟩:=h
    replace h:=retS h; subst h
    refine drawP [] mixed (clsN _) (seqN (Wp.seq ?_))
    refine regP (seqN ?_)
    refine weakP [.cell 6 10 .frz,.cell 6 11 .frz,.cell 6 12 .frz,.cell 6 13 .frz] (Wp.ret ?_)
    exact finP
theorem zqg{r0:TRaft}{upto:Int}{snap:(List Int)}{r:(TRaft × Int)} (h:zim r0 upto snap=some r):Spec Pg 30 [.agg [.int .i64 r0.Id,.int .i64 r0.N,.int .i64 r0.Term,.int .i64 r0.Vote,.int .i64 r0.Role,.int .i64 r0.Lead,.int .i64 r0.Log.Base,.int .i64 r0.Log.BaseTerm,sl TEntry.c r0.Log.Entries,.int .i64 r0.Commit,sl (ci .u8) r0.Snap,sl cb r0.Granted,sl (ci .i64) r0.Next,sl (ci .i64) r0.Match,.int .i64 r0.Clock,.int .i64 r0.Wait],.int .i64 upto,sl (ci .u8) snap] [] 0 (.tup [.agg [.int .i64 r.1.Id,.int .i64 r.1.N,.int .i64 r.1.Term,.int .i64 r.1.Vote,.int .i64 r.1.Role,.int .i64 r.1.Lead,.int .i64 r.1.Log.Base,.int .i64 r.1.Log.BaseTerm,sl TEntry.c r.1.Log.Entries,.int .i64 r.1.Commit,sl (ci .u8) r.1.Snap,sl cb r.1.Granted,sl (ci .i64) r.1.Next,sl (ci .i64) r.1.Match,.int .i64 r.1.Clock,.int .i64 r.1.Wait],.int .i64 r.2]) [] 0:=by
  refine Spec.intro Go.Proofs.Try.func30 i30_ok (le_of_ble rfl) ?_
  show Wp Pg 66 0 i30_B ⟨argEnv _ i30_V,[],_,_⟩ (qf_30 r)
  unfold zim at h
  unfold i30_B
  refine weakP [] ?_
  refine Wp.seq (regP (seqN (Wp.seq (Wp.reg ?_))))
  replace h:=bndS h; obtain ⟨r0_1,g1,h⟩:=h
  refine chunkF 2 (tab_cons (zlp g1) (tab_nil _)) ?_
  refine lastT (tab_nil _) (seqN (Wp.seq (Wp.seq ?_)))
  replace h:=ifS h; rcases h with ⟨g2,h⟩ | ⟨g2,h⟩
  ·refine regP (seqN ?_)
   exact jumpK [.kill [0,3,7,9,10,45],.tidy] (zlj h)
  ·refine regP (seqN ?_)
   exact jumpK [.kill [0,3,7,9,10,45],.tidy] (zlj h)
noncomputable abbrev qf_45(r:Int):Ex→St→Prop:=FinQ 0 [.tmp 4] (.int .i64 r) [] 0
theorem zln{k:Int}{n0:Int}{r:Int} (h:zfy k n0=some r):Spec Pg 45 [.int .i64 k,.int .i64 n0] [] 0 (.int .i64 r) [] 0:=by
  refine Spec.intro Go.Proofs.Try.func45 i45_ok (le_of_ble rfl) ?_
  show Wp Pg 11 0 i45_B ⟨argEnv _ i45_V,[],_,_⟩ (qf_45 r)
  unfold zfy at h
  unfold i45_B
  refine weakP [] ?_
  refine Wp.seq (regP (seqN (Wp.seq ?_)))
  replace h:=reqF h; obtain ⟨g1,h⟩:=h
  replace h:=retS h; subst h
  refine regP (seqN (Wp.ret ?_))
  exact finP
noncomputable abbrev qf_46(r:TWorld):Ex→St→Prop:=FinQ 0 [.cell 8 true 2] (.agg [sl TRaft.c r.R,sl TMsg.c r.Net]) [] 0
theorem zjd{w:TWorld}{i:Int}{r0:TRaft}{l:(List TMsg)}{r:TWorld} (h:zew w i r0 l=some r):Spec Pg 46 [.agg [sl TRaft.c w.R,sl TMsg.c w.Net],.int .i64 i,.agg [.int .i64 r0.Id,.int .i64 r0.N,.int .i64 r0.Term,.int .i64 r0.Vote,.int .i64 r0.Role,.int .i64 r0.Lead,.int .i64 r0.Log.Base,.int .i64 r0.Log.BaseTerm,sl TEntry.c r0.Log.Entries,.int .i64 r0.Commit,sl (ci .u8) r0.Snap,sl cb r0.Granted,sl (ci .i64) r0.Next,sl (ci .i64) r0.Match,.int .i64 r0.Clock,.int .i64 r0.Wait],sl TMsg.c l] [] 0 (.agg [sl TRaft.c r.R,sl TMsg.c r.Net]) [] 0:=by
  refine Spec.intro Go.Proofs.Try.func46 i46_ok (le_of_ble rfl) ?_
  show Wp Pg 46 0 i46_B ⟨argEnv _ i46_V,[],_,_⟩ (qf_46 r)
  unfold zew at h
  unfold i46_B
  refine weakP [] ?_
  refine Wp.seq (regP (seqN (Wp.seq ?_)))
  refine regP (seqN (Wp.seq ?_))
  replace h:=reqS h; obtain ⟨g1,h⟩:=h
  refine regP (seqN (Wp.seq ?_))
  replace h:=bndS h; obtain ⟨e,g2,h⟩:=h
  have:=ias_ownL (n:=16) (id:=4) (ex:=false) (k:=.i64) g2 rfl
  have:=ld_get (c:=TRaft.c) g2
  have:=set_get TRaft.c w.R i r0
  try simp only [EV,EVt, *] at this
  refine regP (seqN (Wp.seq ?_))
  replace h:=reqS h; obtain ⟨g3,h⟩:=h
  refine regP (seqN (Wp.seq ?_))
  replace h:=reqS h; obtain ⟨g4,h⟩:=h
  refine regP (seqN (Wp.seq (Wp.seq ?_)))
  refine regP (seqN ?_)
  replace h:=ifS h; rcases h with ⟨g5,h⟩ | ⟨g5,h⟩
  ·refine condTP ?_
   replace h:=bndS h; obtain ⟨l_1,g6,h⟩:=h
   replace h:=retS h; subst h
   have:=sll_ownL (n:=11) (id:=6) (k:=.i64) g6
   try simp only [EV,EVt, *] at this
   have:=frzOK_S (c:=TMsg.c) g6
   try simp only [EV,EVt, *] at this
   refine regP (seqN (Wp.seq ?_))
   refine regP (seqN ?_)
   refine weakP [.cell 8 0 .frz,.cell 8 1 .frz] (Wp.ret ?_)
   exact finP
  ·replace h:=retS h; subst h
   refine condFP (Wp.skip (seqN (Wp.seq ?_)))
   refine regP (seqN ?_)
   refine weakP [.cell 8 0 .frz,.cell 8 1 .frz] (Wp.ret ?_)
   exact finP
noncomputable abbrev qf_47(r:(TWorld × TMsg)):Ex→St→Prop:=FinQ 0 [.cell 6 true 2,.cell 7 true 11] (.tup [.agg [sl TRaft.c r.1.R,sl TMsg.c r.1.Net],.agg [.int .i64 r.2.Kind,.int .i64 r.2.Group,.int .i64 r.2.From,.int .i64 r.2.To,.int .i64 r.2.Term,.int .i64 r.2.At,.int .i64 r.2.AtTerm,.int .i64 r.2.Commit,.bool r.2.Ok,sl TEntry.c r.2.Entries,sl (ci .u8) r.2.Data]]) [] 0
theorem zmg{w:TWorld}{k:Int}{e:TMsg}{out_1:(List TMsg)}{r:(TWorld × TMsg)} (h:zge w k e out_1=some r):Wp Pg 44 0 (.seq (.reg (some []) i47_R6) (.seq (.reg (some [(1,2)]) i47_R7) .ret)) ⟨[(0,.bad),(1,.int .i64 k),(2,.bad),(3,.ptr 0 0),(6,.ptr 1 0),(7,.ptr 2 0),(8,.ptr 3 0),(9,.ptr 4 0),(26,.bad)],[],(zrq w.R w.Net (0:Int) (0:Int) (0:Int) (0:Int) (0:Int) (0:Int) (0:Int) (0:Int) e.Kind e.Group e.From e.To e.Term e.At e.AtTerm e.Commit e.Ok e.Entries e.Data w.R out_1),6⟩ (qf_47 r):=by
  unfold zge at h
  refine Wp.seq ?_
  replace h:=bndS h; obtain ⟨l_1,g6,h⟩:=h
  replace h:=reqS h; obtain ⟨g7,h⟩:=h
  replace h:=retS h; subst h
  refine drawP [] mixed (clsN _) (seqN (Wp.seq ?_))
  refine drawP [] mixed (clsN _) (seqN ?_)
  refine weakP [.cell 6 1 .frz] (Wp.ret ?_)
  exact finP
theorem zrd{w:TWorld}{k:Int}{keep:Bool}{r:(TWorld × TMsg)} (h:zjt w k keep=some r):Spec Pg 47 [.agg [sl TRaft.c w.R,sl TMsg.c w.Net],.int .i64 k,.bool keep] [] 0 (.tup [.agg [sl TRaft.c r.1.R,sl TMsg.c r.1.Net],.agg [.int .i64 r.2.Kind,.int .i64 r.2.Group,.int .i64 r.2.From,.int .i64 r.2.To,.int .i64 r.2.Term,.int .i64 r.2.At,.int .i64 r.2.AtTerm,.int .i64 r.2.Commit,.bool r.2.Ok,sl TEntry.c r.2.Entries,sl (ci .u8) r.2.Data]]) [] 0:=by
  refine Spec.intro Go.Proofs.Try.func47 i47_ok (le_of_ble rfl) ?_
  show Wp Pg 44 0 i47_B ⟨argEnv _ i47_V,[],_,_⟩ (qf_47 r)
  unfold zjt at h
  unfold i47_B
  refine weakP [] ?_
  refine Wp.seq (regP (seqN (Wp.seq ?_)))
  replace h:=bndS h; obtain ⟨e,g1,h⟩:=h
  refine regP (seqN (Wp.seq ?_))
  refine regP (seqN (Wp.seq ?_))
  replace h:=bndS h; obtain ⟨l,g2,h⟩:=h
  replace h:=reqS h; obtain ⟨g3,h⟩:=h
  refine drawP [] mixed (clsN _) (seqN (Wp.seq (Wp.seq ?_)))
  refine regP (seqN ?_)
  replace h:=ifS h; rcases h with ⟨g4,h⟩ | ⟨g4,h⟩
  ·refine condTP ?_
   replace h:=reqS h; obtain ⟨g5,h⟩:=h
   refine regP (seqN ?_)
   exact jumpK [.kill [0,2,26],.tidy] (zmg h)
  ·refine condFP (Wp.skip (seqN ?_))
   exact jumpK [.kill [0,2,26],.tidy] (zmg h)
end Go.Proofs.Ytgoachcogmlhcaa.R
