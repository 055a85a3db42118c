/- The program's functions answer what the models answer: 2. -/
import Derived.Test.YtgoachcogmlhcaaMW0
import Derived.Test.YtgoachcogmlhcaaMW1
set_option maxRecDepth 100000
set_option maxHeartbeats 1600000
set_option linter.unusedVariables false
set_option linter.unusedSimpArgs false
set_option linter.defProp false
noncomputable section
namespace Go.Proofs.Ytgoachcogmlhcaa.R
open Go Nat
noncomputable abbrev qf_30(r:(TRaft × Int)):Ex→St→Prop:=FinQ 0 [.cell 6 true 16,.tmp 7] (.tup [.agg [.int .i64 r.1.Id,.int .i64 r.1.N,.int .i64 r.1.Term,.int .i64 r.1.Vote,.int .i64 r.1.Role,.int .i64 r.1.Lead,.int .i64 r.1.Log.Base,.int .i64 r.1.Log.BaseTerm,sl TEntry.c r.1.Log.Entries,.int .i64 r.1.Commit,sl (ci .u8) r.1.Snap,sl cb r.1.Granted,sl (ci .i64) r.1.Next,sl (ci .i64) r.1.Match,.int .i64 r.1.Clock,.int .i64 r.1.Wait],.int .i64 r.2]) [] 0
theorem zme{upto:Int}{snap:(List Int)}{r0_1:Tmember}{v29:Bool}{r:(TRaft × Int)} (h:zfn upto snap r0_1 v29=some r):Wp Pg 66 0 (.cond (.t 29) (.seq (.reg none i30_R3) .ret) .skip) ⟨[(0,.bad),(1,.int .i64 upto),(2,sl (ci .u8) snap),(3,.bad),(6,.ptr 0 0),(7,.bad),(8,.ptr 1 0),(9,.bad),(10,.bad),(29,.bool v29),(45,.bad)],[],(hp28 (0:Int) (0:Int) (0:Int) (0:Int) (0:Int) (0:Int) (0:Int) (0:Int) (0:Int) (0:Int) (0:Int) r0_1.Raft.Id r0_1.Raft.N r0_1.Raft.Term r0_1.Raft.Vote r0_1.Raft.Role r0_1.Raft.Lead r0_1.Raft.Log.Base r0_1.Raft.Log.BaseTerm r0_1.Raft.Log.Entries r0_1.Raft.Commit r0_1.Raft.Snap r0_1.Raft.Granted r0_1.Raft.Next r0_1.Raft.Match r0_1.Raft.Clock r0_1.Raft.Wait r0_1.f_out),8⟩ (seqQ Pg 66 0 (.seq (.reg none i30_R4) (.seq (.seq (.reg none i30_R5) (.cond (.t 45) (.seq (.reg none i30_R6) .ret) .skip)) (.seq (.reg (some [(2,4)]) i30_R7) (.seq (.reg none i30_R8) .ret)))) (qf_30 r)):=by
  unfold zfn at h
  replace h:=ifS h; rcases h with ⟨g3,h⟩ | ⟨g3,h⟩
  ·replace h:=retS h; subst h
   refine condTP (Wp.seq ?_)
   refine regP (seqN ?_)
   refine weakP [.cell 6 8 .frz,.cell 6 10 .frz,.cell 6 11 .frz,.cell 6 12 .frz,.cell 6 13 .frz] (Wp.ret (seqR ?_))
   exact finP
  ·refine condFP (Wp.skip (seqN (Wp.seq (Wp.reg ?_))))
   replace h:=bndS h; obtain ⟨r0_2,g4,h⟩:=h
   refine chunkT 7 (tab_cons (zns g4) (tab_nil _)) ?_
   refine lastT (tab_nil _) (seqN (Wp.seq (Wp.seq ?_)))
   refine regP (seqN ?_)
   replace h:=ifS h; rcases h with ⟨g5,h⟩ | ⟨g5,h⟩
   ·replace h:=retS h; subst h
    refine condTP (Wp.seq ?_)
    refine regP (seqN ?_)
    refine weakP [.cell 6 8 .frz,.cell 6 10 .frz,.cell 6 11 .frz,.cell 6 12 .frz,.cell 6 13 .frz] (Wp.ret (seqR ?_))
    exact finP
   ·refine condFP (Wp.skip (seqN (Wp.seq ?_)))
    replace h:=reqS h; obtain ⟨g6,h⟩:=h
    replace h:=retS h; subst h
    refine drawP [] mixed (clsN _) (seqN (Wp.seq ?_))
    refine regP (seqN ?_)
    refine weakP [.cell 6 10 .frz,.cell 6 11 .frz,.cell 6 12 .frz,.cell 6 13 .frz] (Wp.ret ?_)
    exact finP
theorem zrl{r0:TRaft}{upto:Int}{snap:(List Int)}{r:(TRaft × Int)} (h:zjc r0 upto snap=some r):Spec Pg 30 [.agg [.int .i64 r0.Id,.int .i64 r0.N,.int .i64 r0.Term,.int .i64 r0.Vote,.int .i64 r0.Role,.int .i64 r0.Lead,.int .i64 r0.Log.Base,.int .i64 r0.Log.BaseTerm,sl TEntry.c r0.Log.Entries,.int .i64 r0.Commit,sl (ci .u8) r0.Snap,sl cb r0.Granted,sl (ci .i64) r0.Next,sl (ci .i64) r0.Match,.int .i64 r0.Clock,.int .i64 r0.Wait],.int .i64 upto,sl (ci .u8) snap] [] 0 (.tup [.agg [.int .i64 r.1.Id,.int .i64 r.1.N,.int .i64 r.1.Term,.int .i64 r.1.Vote,.int .i64 r.1.Role,.int .i64 r.1.Lead,.int .i64 r.1.Log.Base,.int .i64 r.1.Log.BaseTerm,sl TEntry.c r.1.Log.Entries,.int .i64 r.1.Commit,sl (ci .u8) r.1.Snap,sl cb r.1.Granted,sl (ci .i64) r.1.Next,sl (ci .i64) r.1.Match,.int .i64 r.1.Clock,.int .i64 r.1.Wait],.int .i64 r.2]) [] 0:=by
  refine Spec.intro Go.Proofs.Try.func30 i30_ok (le_of_ble rfl) ?_
  show Wp Pg 66 0 i30_B ⟨argEnv _ i30_V,[],_,_⟩ (qf_30 r)
  unfold zjc at h
  unfold i30_B
  refine weakP [] ?_
  refine Wp.seq (regP (seqN (Wp.seq (Wp.reg ?_))))
  replace h:=bndS h; obtain ⟨r0_1,g1,h⟩:=h
  refine chunkF 2 (tab_cons (zmk g1) (tab_nil _)) ?_
  refine lastT (tab_nil _) (seqN (Wp.seq (Wp.seq ?_)))
  replace h:=ifS h; rcases h with ⟨g2,h⟩ | ⟨g2,h⟩
  ·refine regP (seqN ?_)
   exact jumpK [.kill [0,3,7,9,10,45],.tidy] (zme h)
  ·refine regP (seqN ?_)
   exact jumpK [.kill [0,3,7,9,10,45],.tidy] (zme h)
noncomputable abbrev qf_45(r:Int):Ex→St→Prop:=FinQ 0 [.tmp 4] (.int .i64 r) [] 0
theorem zmi{k:Int}{n0:Int}{r:Int} (h:zgh k n0=some r):Spec Pg 45 [.int .i64 k,.int .i64 n0] [] 0 (.int .i64 r) [] 0:=by
  refine Spec.intro Go.Proofs.Try.func45 i45_ok (le_of_ble rfl) ?_
  show Wp Pg 11 0 i45_B ⟨argEnv _ i45_V,[],_,_⟩ (qf_45 r)
  unfold zgh at h
  unfold i45_B
  refine weakP [] ?_
  refine Wp.seq (regP (seqN (Wp.seq ?_)))
  replace h:=reqF h; obtain ⟨g1,h⟩:=h
  replace h:=retS h; subst h
  refine regP (seqN (Wp.ret ?_))
  exact finP
noncomputable abbrev qf_46(r:TWorld):Ex→St→Prop:=FinQ 0 [.cell 8 true 2] (.agg [sl TRaft.c r.R,sl TMsg.c r.Net]) [] 0
theorem zjs{w:TWorld}{i:Int}{r0:TRaft}{l:(List TMsg)}{r:TWorld} (h:zfe w i r0 l=some r):Spec Pg 46 [.agg [sl TRaft.c w.R,sl TMsg.c w.Net],.int .i64 i,.agg [.int .i64 r0.Id,.int .i64 r0.N,.int .i64 r0.Term,.int .i64 r0.Vote,.int .i64 r0.Role,.int .i64 r0.Lead,.int .i64 r0.Log.Base,.int .i64 r0.Log.BaseTerm,sl TEntry.c r0.Log.Entries,.int .i64 r0.Commit,sl (ci .u8) r0.Snap,sl cb r0.Granted,sl (ci .i64) r0.Next,sl (ci .i64) r0.Match,.int .i64 r0.Clock,.int .i64 r0.Wait],sl TMsg.c l] [] 0 (.agg [sl TRaft.c r.R,sl TMsg.c r.Net]) [] 0:=by
  refine Spec.intro Go.Proofs.Try.func46 i46_ok (le_of_ble rfl) ?_
  show Wp Pg 46 0 i46_B ⟨argEnv _ i46_V,[],_,_⟩ (qf_46 r)
  unfold zfe at h
  unfold i46_B
  refine weakP [] ?_
  refine Wp.seq (regP (seqN (Wp.seq ?_)))
  refine regP (seqN (Wp.seq ?_))
  replace h:=reqS h; obtain ⟨g1,h⟩:=h
  refine regP (seqN (Wp.seq ?_))
  replace h:=bndS h; obtain ⟨e,g2,h⟩:=h
  have:=ias_ownL (n:=16) (id:=4) (ex:=false) (k:=.i64) g2 rfl
  have:=ld_get (c:=TRaft.c) g2
  have:=set_get TRaft.c w.R i r0
  try simp only [EV,EVt, *] at this
  refine regP (seqN (Wp.seq ?_))
  replace h:=reqS h; obtain ⟨g3,h⟩:=h
  refine regP (seqN (Wp.seq ?_))
  replace h:=reqS h; obtain ⟨g4,h⟩:=h
  refine regP (seqN (Wp.seq (Wp.seq ?_)))
  refine regP (seqN ?_)
  replace h:=ifS h; rcases h with ⟨g5,h⟩ | ⟨g5,h⟩
  ·refine condTP ?_
   replace h:=bndS h; obtain ⟨l_1,g6,h⟩:=h
   replace h:=retS h; subst h
   have:=sll_ownL (n:=11) (id:=6) (k:=.i64) g6
   try simp only [EV,EVt, *] at this
   have:=frzOK_S (c:=TMsg.c) g6
   try simp only [EV,EVt, *] at this
   refine regP (seqN (Wp.seq ?_))
   refine regP (seqN ?_)
   refine weakP [.cell 8 0 .frz,.cell 8 1 .frz] (Wp.ret ?_)
   exact finP
  ·replace h:=retS h; subst h
   refine condFP (Wp.skip (seqN (Wp.seq ?_)))
   refine regP (seqN ?_)
   refine weakP [.cell 8 0 .frz,.cell 8 1 .frz] (Wp.ret ?_)
   exact finP
noncomputable abbrev qf_47(r:(TWorld × TMsg)):Ex→St→Prop:=FinQ 0 [.cell 6 true 2,.cell 7 true 11] (.tup [.agg [sl TRaft.c r.1.R,sl TMsg.c r.1.Net],.agg [.int .i64 r.2.Kind,.int .i64 r.2.Group,.int .i64 r.2.From,.int .i64 r.2.To,.int .i64 r.2.Term,.int .i64 r.2.At,.int .i64 r.2.AtTerm,.int .i64 r.2.Commit,.bool r.2.Ok,sl TEntry.c r.2.Entries,sl (ci .u8) r.2.Data]]) [] 0
theorem znf{w:TWorld}{k:Int}{e:TMsg}{out_1:(List TMsg)}{r:(TWorld × TMsg)} (h:zgn w k e out_1=some r):Wp Pg 44 0 (.seq (.reg (some []) i47_R6) (.seq (.reg (some [(1,2)]) i47_R7) .ret)) ⟨[(0,.bad),(1,.int .i64 k),(2,.bad),(3,.ptr 0 0),(6,.ptr 1 0),(7,.ptr 2 0),(8,.ptr 3 0),(9,.ptr 4 0),(26,.bad)],[],(zsy w.R w.Net (0:Int) (0:Int) (0:Int) (0:Int) (0:Int) (0:Int) (0:Int) (0:Int) e.Kind e.Group e.From e.To e.Term e.At e.AtTerm e.Commit e.Ok e.Entries e.Data w.R out_1),6⟩ (qf_47 r):=by
  unfold zgn at h
  refine Wp.seq ?_
  replace h:=bndS h; obtain ⟨l_1,g6,h⟩:=h
  replace h:=reqS h; obtain ⟨g7,h⟩:=h
  replace h:=retS h; subst h
  refine drawP [] mixed (clsN _) (seqN (Wp.seq ?_))
  refine drawP [] mixed (clsN _) (seqN ?_)
  refine weakP [.cell 6 1 .frz] (Wp.ret ?_)
  exact finP
theorem zsj{w:TWorld}{k:Int}{keep:Bool}{r:(TWorld × TMsg)} (h:zkj w k keep=some r):Spec Pg 47 [.agg [sl TRaft.c w.R,sl TMsg.c w.Net],.int .i64 k,.bool keep] [] 0 (.tup [.agg [sl TRaft.c r.1.R,sl TMsg.c r.1.Net],.agg [.int .i64 r.2.Kind,.int .i64 r.2.Group,.int .i64 r.2.From,.int .i64 r.2.To,.int .i64 r.2.Term,.int .i64 r.2.At,.int .i64 r.2.AtTerm,.int .i64 r.2.Commit,.bool r.2.Ok,sl TEntry.c r.2.Entries,sl (ci .u8) r.2.Data]]) [] 0:=by
  refine Spec.intro Go.Proofs.Try.func47 i47_ok (le_of_ble rfl) ?_
  show Wp Pg 44 0 i47_B ⟨argEnv _ i47_V,[],_,_⟩ (qf_47 r)
  unfold zkj at h
  unfold i47_B
  refine weakP [] ?_
  refine Wp.seq (regP (seqN (Wp.seq ?_)))
  replace h:=bndS h; obtain ⟨e,g1,h⟩:=h
  refine regP (seqN (Wp.seq ?_))
  refine regP (seqN (Wp.seq ?_))
  replace h:=bndS h; obtain ⟨l,g2,h⟩:=h
  replace h:=reqS h; obtain ⟨g3,h⟩:=h
  refine drawP [] mixed (clsN _) (seqN (Wp.seq (Wp.seq ?_)))
  refine regP (seqN ?_)
  replace h:=ifS h; rcases h with ⟨g4,h⟩ | ⟨g4,h⟩
  ·refine condTP ?_
   replace h:=reqS h; obtain ⟨g5,h⟩:=h
   refine regP (seqN ?_)
   exact jumpK [.kill [0,2,26],.tidy] (znf h)
  ·refine condFP (Wp.skip (seqN ?_))
   exact jumpK [.kill [0,2,26],.tidy] (znf h)
noncomputable abbrev qf_48(r:(TRaft × (List TMsg))):Ex→St→Prop:=FinQ 0 [.cell 4 true 16,.tmp 5] (.tup [.agg [.int .i64 r.1.Id,.int .i64 r.1.N,.int .i64 r.1.Term,.int .i64 r.1.Vote,.int .i64 r.1.Role,.int .i64 r.1.Lead,.int .i64 r.1.Log.Base,.int .i64 r.1.Log.BaseTerm,sl TEntry.c r.1.Log.Entries,.int .i64 r.1.Commit,sl (ci .u8) r.1.Snap,sl cb r.1.Granted,sl (ci .i64) r.1.Next,sl (ci .i64) r.1.Match,.int .i64 r.1.Clock,.int .i64 r.1.Wait],sl TMsg.c r.2]) [] 0
theorem zaz{zrn zro zrp zrq zrr zrs zrt zru:Int}{zrv:(List TEntry)}{zrw zqs zqt:Int}{zqu:(List Int)}{zqv:(List Bool)}{zqw zqx:(List Int)}{zqy:(List TMsg)}{r:(TRaft × (List TMsg))} (h:zal zrn zro zrp zrq zrr zrs zrt zru zrv zrw zqs zqt zqu zqv zqw zqx zqy=some r):Wp Pg 180 0 (.seq (.reg none i48_R23) .ret) ⟨[(0,.bad),(1,.bad),(2,.bad),(3,.bad),(4,.ptr 0 0),(5,.bad),(6,.ptr 1 0),(56,.bad),(83,.bad),(89,.bad),(90,.bad),(95,.bad),(123,.bad),(126,.bad),(131,.bad),(158,.bad),(161,.bad),(166,.bad),(171,.bad)],[],(zsr (0:Int) (0:Int) (0:Int) (0:Int) (0:Int) (0:Int) (0:Int) (0:Int) (0:Int) (0:Int) (0:Int) zrn zro zrp zrq zrr zrs zrt zru zrv zrw zqu zqv zqw zqx zqs zqt zqy),7⟩ (qf_48 r):=by
  unfold zal at h
  refine Wp.seq (Wp.reg ?_)
  replace h:=bndS h; obtain ⟨r0_13,g39,h⟩:=h
  replace h:=retS h; subst h
  refine chunkF 2 (tab_cons (zjl g39) (tab_nil _)) ?_
  refine lastT (tab_nil _) (seqN ?_)
  refine weakP [.cell 4 10 .frz,.cell 4 11 .frz,.cell 4 12 .frz,.cell 4 13 .frz,.at 5 .frz] (Wp.ret ?_)
  exact finP
theorem zib{v158:Bool}{zqa zqb zqc zqd zqe zqf zqg zqh zqi zou zov:Int}{zqj:(List TEntry)}{zow:(List Int)}{zox:(List Bool)}{zoy zoz:(List Int)}{zpa:(List TMsg)}{r:(TRaft × (List TMsg))} (h:zed v158 zqa zqb zqc zqd zqe zqf zqg zqh zqi zou zov zqj zow zox zoy zoz zpa=some r):Wp Pg 180 0 (.cond (.t 158) (.reg none i48_R16) .skip) ⟨[(0,.bad),(1,.bad),(2,.bad),(3,.bad),(4,.ptr 0 0),(5,.bad),(6,.ptr 1 0),(56,.bad),(83,.bad),(89,.bad),(90,.bad),(95,.bad),(123,.bad),(126,.bad),(131,.bad),(158,.bool v158),(161,.bad),(166,.bad),(171,.bad)],[],(hp28 (0:Int) (0:Int) (0:Int) (0:Int) (0:Int) (0:Int) (0:Int) (0:Int) (0:Int) (0:Int) (0:Int) zqa zqb zqc zqd zqe zqf zqg zqh zqj zqi zow zox zoy zoz zou zov zpa),8⟩ (blockQ 0 (seqQ Pg 180 0 (.seq (.reg none i48_R23) .ret) (qf_48 r))):=by
  unfold zed at h
  replace h:=ifS h; rcases h with ⟨g31,h⟩ | ⟨g31,h⟩
  ·refine condTP (Wp.reg ?_)
   replace h:=bndS h; obtain ⟨r0_9,g32,h⟩:=h
   refine lastF (tab_cons (zog g32) (tab_nil _)) (blockN (seqN ?_))
   exact jumpK [.kill [158],.tidy] (zaz h)
  ·refine condFP (Wp.skip (blockN (seqN ?_)))
   exact jumpK [.kill [158],.cell 6 8 .frz,.tidy] (zaz h)
theorem zic{v123:Bool}{zbl zbm zbn zbo zbp zbq zbr zbs zbu zao zap:Int}{zbt:(List TEntry)}{zaq:(List Int)}{zar:(List Bool)}{zx zas:(List Int)}{zat:(List TMsg)}{r:(TRaft × (List TMsg))} (h:zct v123 zbl zbm zbn zbo zbp zbq zbr zbs zbu zao zap zbt zaq zar zx zas zat=some r):Wp Pg 180 0 (.cond (.t 123) (.reg none i48_R11) .skip) ⟨[(0,.bad),(1,.bad),(2,.bad),(3,.bad),(4,.ptr 0 0),(5,.bad),(6,.ptr 1 0),(56,.bad),(83,.bad),(89,.bad),(90,.bad),(95,.bad),(123,.bool v123),(126,.bad),(131,.bad),(158,.bad),(161,.bad),(166,.bad),(171,.bad)],[],(hp28 (0:Int) (0:Int) (0:Int) (0:Int) (0:Int) (0:Int) (0:Int) (0:Int) (0:Int) (0:Int) (0:Int) zbl zbm zbn zbo zbp zbq zbr zbs zbt zbu zaq zar zx zas zao zap zat),8⟩ (blockQ 0 (seqQ Pg 180 0 (.seq (.reg none i48_R23) .ret) (qf_48 r))):=by
  unfold zct at h
  replace h:=ifS h; rcases h with ⟨g22,h⟩ | ⟨g22,h⟩
  ·refine condTP (Wp.reg ?_)
   replace h:=bndS h; obtain ⟨r0_6,g23,h⟩:=h
   refine lastF (tab_cons (znr g23) (tab_nil _)) (blockN (seqN ?_))
   exact jumpK [.kill [123],.tidy] (zaz h)
  ·refine condFP (Wp.skip (blockN (seqN ?_)))
   exact jumpK [.kill [123],.cell 6 8 .frz,.tidy] (zaz h)
theorem zmf{x0:TMsg}{m_00 m_10 m_20 m_30 m_40 m_50 m_60 m_70 m_90 ze zg:Int}{m_80:(List TEntry)}{zf:(List Int)}{zh:(List Bool)}{zc zi:(List Int)}{zj:(List TMsg)}{r:(TRaft × (List TMsg))} (h:zfo x0 m_00 m_10 m_20 m_30 m_40 m_50 m_60 m_70 m_90 ze zg m_80 zf zh zc zi zj=some r):Wp Pg 180 0 (.seq (.seq (.reg none i48_R6) (.block 0 (.seq (.reg none i48_R7) (.cond (.t 90) (.reg none i48_R8) (.seq (.reg none i48_R9) (.cond (.t 95) (.seq (.reg (some []) i48_R10) (.cond (.t 123) (.reg none i48_R11) .skip)) (.seq (.reg none i48_R12) (.cond (.t 126) (.reg none i48_R13) (.seq (.reg none i48_R14) (.cond (.t 131) (.seq (.reg (some []) i48_R15) (.cond (.t 158) (.reg none i48_R16) .skip)) (.seq (.reg none i48_R17) (.cond (.t 161) (.reg none i48_R18) (.seq (.reg none i48_R19) (.cond (.t 166) (.reg none i48_R20) (.seq (.reg none i48_R21) (.cond (.t 171) (.reg none i48_R22) .skip)))))))))))))))) (.seq (.reg none i48_R23) .ret)) ⟨[(0,.bad),(1,.bad),(2,.bad),(3,.ptr 0 0),(4,.ptr 1 0),(5,.bad),(6,.ptr 2 0),(56,.bad),(83,.bad),(89,.bad),(90,.bad),(95,.bad),(123,.bad),(126,.bad),(131,.bad),(158,.bad),(161,.bad),(166,.bad),(171,.bad)],[],(zsn x0.Kind x0.Group x0.From x0.To x0.Term x0.At x0.AtTerm x0.Commit x0.Ok x0.Entries x0.Data (0:Int) (0:Int) (0:Int) (0:Int) (0:Int) (0:Int) (0:Int) (0:Int) (0:Int) (0:Int) (0:Int) m_00 m_10 m_20 m_30 m_40 m_50 m_60 m_70 m_80 m_90 zf zh zc zi ze zg zj),9⟩ (qf_48 r):=by
  unfold zfo at h
  refine Wp.seq (Wp.seq (regP (seqN (Wp.block (Wp.seq ?_)))))
  refine regP (seqN ?_)
  replace h:=ifS h; rcases h with ⟨g15,h⟩ | ⟨g15,h⟩
  ·refine condTP (Wp.reg ?_)
   replace h:=bndS h; obtain ⟨r0_4,g16,h⟩:=h
   refine lastF (tab_cons (zph g16) (tab_nil _)) (blockN (seqN ?_))
   exact jumpK [.kill [3,89,90],.cell 6 8 .frz,.tidy] (zaz h)
  ·refine condFP (Wp.seq ?_)
   refine regP (seqN ?_)
   replace h:=ifS h; rcases h with ⟨g17,h⟩ | ⟨g17,h⟩
   ·refine condTP (Wp.seq ?_)
    replace h:=ifS h; rcases h with ⟨g18,h⟩ | ⟨g18,h⟩
    ·replace h:=ifS h; rcases h with ⟨g19,h⟩ | ⟨g19,h⟩
     ·replace h:=ifS h; rcases h with ⟨g20,h⟩ | ⟨g20,h⟩
      ·replace h:=bndS h; obtain ⟨r0_5,g21,h⟩:=h
       refine drawP [68] mixed (clsC 25 (tab_cons (zkm g21) (tab_nil _)) (clsN _)) (seqN ?_)
       exact jumpK [.kill [3,89,90,95],.tidy] (zic h)
      ·refine drawP [] mixed (clsN _) (seqN ?_)
       exact jumpK [.kill [3,89,90,95],.tidy] (zic h)
     ·refine drawP [] mixed (clsN _) (seqN ?_)
      exact jumpK [.kill [3,89,90,95],.tidy] (zic h)
    ·refine drawP [] mixed (clsN _) (seqN ?_)
     exact jumpK [.kill [3,89,90,95],.tidy] (zic h)
   ·refine condFP (Wp.seq ?_)
    refine regP (seqN ?_)
    replace h:=ifS h; rcases h with ⟨g24,h⟩ | ⟨g24,h⟩
    ·refine condTP (Wp.reg ?_)
     replace h:=bndS h; obtain ⟨r0_7,g25,h⟩:=h
     refine lastF (tab_cons (zpp g25) (tab_nil _)) (blockN (seqN ?_))
     exact jumpK [.kill [3,89,90,95,126],.cell 6 8 .frz,.tidy] (zaz h)
    ·refine condFP (Wp.seq ?_)
     refine regP (seqN ?_)
     replace h:=ifS h; rcases h with ⟨g26,h⟩ | ⟨g26,h⟩
     ·refine condTP (Wp.seq ?_)
      replace h:=ifS h; rcases h with ⟨g27,h⟩ | ⟨g27,h⟩
      ·replace h:=ifS h; rcases h with ⟨g28,h⟩ | ⟨g28,h⟩
       ·replace h:=ifS h; rcases h with ⟨g29,h⟩ | ⟨g29,h⟩
        ·replace h:=bndS h; obtain ⟨r0_8,g30,h⟩:=h
         refine drawP [68] mixed (clsC 24 (tab_cons (zkm g30) (tab_nil _)) (clsN _)) (seqN ?_)
         exact jumpK [.kill [3,89,90,95,126,131],.tidy] (zib h)
        ·refine drawP [] mixed (clsN _) (seqN ?_)
         exact jumpK [.kill [3,89,90,95,126,131],.tidy] (zib h)
       ·refine drawP [] mixed (clsN _) (seqN ?_)
        exact jumpK [.kill [3,89,90,95,126,131],.tidy] (zib h)
      ·refine drawP [] mixed (clsN _) (seqN ?_)
       exact jumpK [.kill [3,89,90,95,126,131],.tidy] (zib h)
     ·refine condFP (Wp.seq ?_)
      refine regP (seqN ?_)
      replace h:=ifS h; rcases h with ⟨g33,h⟩ | ⟨g33,h⟩
      ·refine condTP (Wp.reg ?_)
       replace h:=bndS h; obtain ⟨r0_10,g34,h⟩:=h
       refine lastF (tab_cons (zoh g34) (tab_nil _)) (blockN (seqN ?_))
       exact jumpK [.kill [3,89,90,95,126,131,161],.tidy] (zaz h)
      ·refine condFP (Wp.seq ?_)
       refine regP (seqN ?_)
       replace h:=ifS h; rcases h with ⟨g35,h⟩ | ⟨g35,h⟩
       ·refine condTP (Wp.reg ?_)
        replace h:=bndS h; obtain ⟨r0_11,g36,h⟩:=h
        refine lastF (tab_cons (zpq g36) (tab_nil _)) (blockN (seqN ?_))
        exact jumpK [.kill [3,89,90,95,126,131,161,166],.tidy] (zaz h)
       ·refine condFP (Wp.seq ?_)
        refine regP (seqN ?_)
        replace h:=ifS h; rcases h with ⟨g37,h⟩ | ⟨g37,h⟩
        ·refine condTP (Wp.reg ?_)
         replace h:=bndS h; obtain ⟨r0_12,g38,h⟩:=h
         refine lastF (tab_cons (zpr g38) (tab_nil _)) (blockN (seqN ?_))
         exact jumpK [.kill [3,89,90,95,126,131,161,166,171],.tidy] (zaz h)
        ·refine condFP (Wp.skip (blockN (seqN ?_)))
         exact jumpK [.kill [3,89,90,95,126,131,161,166,171],.cell 6 8 .frz,.tidy] (zaz h)
theorem zid{x0:TMsg}{r0_1:Tmember}{v83:Bool}{r:(TRaft × (List TMsg))} (h:zcu x0 r0_1 v83=some r):Wp Pg 180 0 (.cond (.t 83) (.reg none i48_R5) .skip) ⟨[(0,.bad),(1,.bad),(2,.bad),(3,.ptr 0 0),(4,.ptr 1 0),(5,.bad),(6,.ptr 2 0),(56,.bad),(83,.bool v83),(89,.bad),(90,.bad),(95,.bad),(123,.bad),(126,.bad),(131,.bad),(158,.bad),(161,.bad),(166,.bad),(171,.bad)],[],(zsn x0.Kind x0.Group x0.From x0.To x0.Term x0.At x0.AtTerm x0.Commit x0.Ok x0.Entries x0.Data (0:Int) (0:Int) (0:Int) (0:Int) (0:Int) (0:Int) (0:Int) (0:Int) (0:Int) (0:Int) (0:Int) r0_1.Raft.Id r0_1.Raft.N r0_1.Raft.Term r0_1.Raft.Vote r0_1.Raft.Role r0_1.Raft.Lead r0_1.Raft.Log.Base r0_1.Raft.Log.BaseTerm r0_1.Raft.Log.Entries r0_1.Raft.Commit r0_1.Raft.Snap r0_1.Raft.Granted r0_1.Raft.Next r0_1.Raft.Match r0_1.Raft.Clock r0_1.Raft.Wait r0_1.f_out),9⟩ (seqQ Pg 180 0 (.seq (.seq (.reg none i48_R6) (.block 0 (.seq (.reg none i48_R7) (.cond (.t 90) (.reg none i48_R8) (.seq (.reg none i48_R9) (.cond (.t 95) (.seq (.reg (some []) i48_R10) (.cond (.t 123) (.reg none i48_R11) .skip)) (.seq (.reg none i48_R12) (.cond (.t 126) (.reg none i48_R13) (.seq (.reg none i48_R14) (.cond (.t 131) (.seq (.reg (some []) i48_R15) (.cond (.t 158) (.reg none i48_R16) .skip)) (.seq (.reg none i48_R17) (.cond (.t 161) (.reg none i48_R18) (.seq (.reg none i48_R19) (.cond (.t 166) (.reg none i48_R20) (.seq (.reg none i48_R21) (.cond (.t 171) (.reg none i48_R22) .skip)))))))))))))))) (.seq (.reg none i48_R23) .ret)) (qf_48 r)):=by
  unfold zcu at h
  replace h:=ifS h; rcases h with ⟨g13,h⟩ | ⟨g13,h⟩
  ·refine condTP (Wp.reg ?_)
   replace h:=bndS h; obtain ⟨r0_3,g14,h⟩:=h
   refine lastF (tab_cons (zeq g14) (tab_nil _)) (seqN ?_)
   exact jumpK [.kill [83],.tidy] (zmf h)
  ·refine condFP (Wp.skip (seqN ?_))
   exact jumpK [.kill [83]] (zmf h)
theorem zcw{x0:TMsg}{r0_1:Tmember}{v56:Bool}{r:(TRaft × (List TMsg))} (h:zbd x0 r0_1 v56=some r):Wp Pg 180 0 (.cond (.t 56) (.seq (.reg none i48_R3) .ret) .skip) ⟨[(0,.bad),(1,.bad),(2,.bad),(3,.ptr 0 0),(4,.ptr 1 0),(5,.bad),(6,.ptr 2 0),(56,.bool v56),(83,.bad),(89,.bad),(90,.bad),(95,.bad),(123,.bad),(126,.bad),(131,.bad),(158,.bad),(161,.bad),(166,.bad),(171,.bad)],[],(zsn x0.Kind x0.Group x0.From x0.To x0.Term x0.At x0.AtTerm x0.Commit x0.Ok x0.Entries x0.Data (0:Int) (0:Int) (0:Int) (0:Int) (0:Int) (0:Int) (0:Int) (0:Int) (0:Int) (0:Int) (0:Int) r0_1.Raft.Id r0_1.Raft.N r0_1.Raft.Term r0_1.Raft.Vote r0_1.Raft.Role r0_1.Raft.Lead r0_1.Raft.Log.Base r0_1.Raft.Log.BaseTerm r0_1.Raft.Log.Entries r0_1.Raft.Commit r0_1.Raft.Snap r0_1.Raft.Granted r0_1.Raft.Next r0_1.Raft.Match r0_1.Raft.Clock r0_1.Raft.Wait r0_1.f_out),9⟩ (seqQ Pg 180 0 (.seq (.seq (.reg (some []) i48_R4) (.cond (.t 83) (.reg none i48_R5) .skip)) (.seq (.seq (.reg none i48_R6) (.block 0 (.seq (.reg none i48_R7) (.cond (.t 90) (.reg none i48_R8) (.seq (.reg none i48_R9) (.cond (.t 95) (.seq (.reg (some []) i48_R10) (.cond (.t 123) (.reg none i48_R11) .skip)) (.seq (.reg none i48_R12) (.cond (.t 126) (.reg none i48_R13) (.seq (.reg none i48_R14) (.cond (.t 131) (.seq (.reg (some []) i48_R15) (.cond (.t 158) (.reg none i48_R16) .skip)) (.seq (.reg none i48_R17) (.cond (.t 161) (.reg none i48_R18) (.seq (.reg none i48_R19) (.cond (.t 166) (.reg none i48_R20) (.seq (.reg none i48_R21) (.cond (.t 171) (.reg none i48_R22) .skip)))))))))))))))) (.seq (.reg none i48_R23) .ret))) (qf_48 r)):=by
  unfold zbd at h
  replace h:=ifS h; rcases h with ⟨g8,h⟩ | ⟨g8,h⟩
  ·refine condTP (Wp.seq (Wp.reg ?_))
   replace h:=bndS h; obtain ⟨r0_2,g9,h⟩:=h
   replace h:=retS h; subst h
   refine chunkF 2 (tab_cons (zof g9) (tab_nil _)) ?_
   refine lastT (tab_nil _) (seqN ?_)
   refine weakP [.cell 4 8 .frz,.cell 4 10 .frz,.cell 4 11 .frz,.cell 4 12 .frz,.cell 4 13 .frz,.at 5 .frz] (Wp.ret (seqR ?_))
   exact finP
  ·refine condFP (Wp.skip (seqN (Wp.seq (Wp.seq ?_))))
   replace h:=ifS h; rcases h with ⟨g10,h⟩ | ⟨g10,h⟩
   ·replace h:=ifS h; rcases h with ⟨g11,h⟩ | ⟨g11,h⟩
    ·replace h:=ifS h; rcases h with ⟨g12,h⟩ | ⟨g12,h⟩
     ·refine drawP [] mixed (clsN _) (seqN ?_)
      exact jumpK [.kill [56],.tidy] (zid h)
     ·refine drawP [] mixed (clsN _) (seqN ?_)
      exact jumpK [.kill [56],.tidy] (zid h)
    ·refine drawP [] mixed (clsN _) (seqN ?_)
     exact jumpK [.kill [56],.tidy] (zid h)
   ·refine drawP [] mixed (clsN _) (seqN ?_)
    exact jumpK [.kill [56],.tidy] (zid h)
theorem zrm{r0:TRaft}{x0:TMsg}{r:(TRaft × (List TMsg))} (h:zjd r0 x0=some r):Spec Pg 48 [.agg [.int .i64 r0.Id,.int .i64 r0.N,.int .i64 r0.Term,.int .i64 r0.Vote,.int .i64 r0.Role,.int .i64 r0.Lead,.int .i64 r0.Log.Base,.int .i64 r0.Log.BaseTerm,sl TEntry.c r0.Log.Entries,.int .i64 r0.Commit,sl (ci .u8) r0.Snap,sl cb r0.Granted,sl (ci .i64) r0.Next,sl (ci .i64) r0.Match,.int .i64 r0.Clock,.int .i64 r0.Wait],.agg [.int .i64 x0.Kind,.int .i64 x0.Group,.int .i64 x0.From,.int .i64 x0.To,.int .i64 x0.Term,.int .i64 x0.At,.int .i64 x0.AtTerm,.int .i64 x0.Commit,.bool x0.Ok,sl TEntry.c x0.Entries,sl (ci .u8) x0.Data]] [] 0 (.tup [.agg [.int .i64 r.1.Id,.int .i64 r.1.N,.int .i64 r.1.Term,.int .i64 r.1.Vote,.int .i64 r.1.Role,.int .i64 r.1.Lead,.int .i64 r.1.Log.Base,.int .i64 r.1.Log.BaseTerm,sl TEntry.c r.1.Log.Entries,.int .i64 r.1.Commit,sl (ci .u8) r.1.Snap,sl cb r.1.Granted,sl (ci .i64) r.1.Next,sl (ci .i64) r.1.Match,.int .i64 r.1.Clock,.int .i64 r.1.Wait],sl TMsg.c r.2]) [] 0:=by
  refine Spec.intro Go.Proofs.Try.func48 i48_ok (le_of_ble rfl) ?_
  show Wp Pg 180 0 i48_B ⟨argEnv _ i48_V,[],_,_⟩ (qf_48 r)
  unfold zjd at h
  unfold i48_B
  refine weakP [] ?_
  refine Wp.seq (regP (seqN (Wp.seq (Wp.reg ?_))))
  replace h:=bndS h; obtain ⟨r0_1,g1,h⟩:=h
  refine chunkF 2 (tab_cons (zmk g1) (tab_nil _)) ?_
  refine lastT (tab_nil _) (seqN (Wp.seq (Wp.seq ?_)))
  replace h:=ifS h; rcases h with ⟨g2,h⟩ | ⟨g2,h⟩
  ·refine drawP [] mixed (clsN _) (seqN ?_)
   exact jumpK [.kill [0,1,2,5,83,89,90,95,123,126,131,158,161,166,171],.tidy] (zcw h)
  ·replace h:=ifS h; rcases h with ⟨g3,h⟩ | ⟨g3,h⟩
   ·refine drawP [] mixed (clsN _) (seqN ?_)
    exact jumpK [.kill [0,1,2,5,83,89,90,95,123,126,131,158,161,166,171],.tidy] (zcw h)
   ·replace h:=ifS h; rcases h with ⟨g4,h⟩ | ⟨g4,h⟩
    ·refine drawP [] mixed (clsN _) (seqN ?_)
     exact jumpK [.kill [0,1,2,5,83,89,90,95,123,126,131,158,161,166,171],.tidy] (zcw h)
    ·replace h:=ifS h; rcases h with ⟨g5,h⟩ | ⟨g5,h⟩
     ·refine drawP [] mixed (clsN _) (seqN ?_)
      exact jumpK [.kill [0,1,2,5,83,89,90,95,123,126,131,158,161,166,171],.tidy] (zcw h)
     ·replace h:=ifS h; rcases h with ⟨g6,h⟩ | ⟨g6,h⟩
      ·refine drawP [] mixed (clsN _) (seqN ?_)
       exact jumpK [.kill [0,1,2,5,83,89,90,95,123,126,131,158,161,166,171],.tidy] (zcw h)
      ·replace h:=ifS h; rcases h with ⟨g7,h⟩ | ⟨g7,h⟩
       ·refine drawP [] mixed (clsN _) (seqN ?_)
        exact jumpK [.kill [0,1,2,5,83,89,90,95,123,126,131,158,161,166,171],.tidy] (zcw h)
       ·refine drawP [] mixed (clsN _) (seqN ?_)
        exact jumpK [.kill [0,1,2,5,83,89,90,95,123,126,131,158,161,166,171],.tidy] (zcw h)
noncomputable abbrev qf_20(r:TWorld):Ex→St→Prop:=FinQ 0 [.cell 4 true 2] (.agg [sl TRaft.c r.R,sl TMsg.c r.Net]) [] 0
theorem zma{r0_4:(TWorld × TMsg)}{v87:Bool}{r:TWorld} (h:zgq r0_4 v87=some r):Wp Pg 177 0 (.cond (.t 87) (.seq (.reg none i20_R14) .ret) .skip) ⟨[(0,.bad),(1,.bad),(2,.bad),(3,.bad),(4,.ptr 0 0),(5,.bad),(6,.bad),(7,.bad),(8,.bad),(9,.ptr 1 0),(10,.ptr 2 0),(11,.bad),(12,.bad),(13,.bad),(15,.bad),(16,.bad),(17,.bad),(18,.bad),(19,.bad),(20,.bad),(21,.bad),(34,.bad),(35,.bad),(49,.bad),(56,.bad),(87,.bool v87),(108,.bad),(120,.bad),(127,.bad),(145,.bad),(151,.bad),(170,.bad)],[],(hp24 r0_4.1.R r0_4.1.Net r0_4.2.Kind r0_4.2.Group r0_4.2.From r0_4.2.To r0_4.2.Term r0_4.2.At r0_4.2.AtTerm r0_4.2.Commit r0_4.2.Ok r0_4.2.Entries r0_4.2.Data),3⟩ (seqQ Pg 177 0 (.seq (.reg (some [(1,12),(3,12),(6,12),(7,12),(8,12)]) i20_R15) (.seq (.reg none i20_R16) .ret)) (blockQ 0 (seqQ Pg 177 0 (.seq (.reg none i20_R33) .ret) (qf_20 r)))):=by
  unfold zgq at h
  replace h:=ifS h; rcases h with ⟨g14,h⟩ | ⟨g14,h⟩
  ·replace h:=retS h; subst h
   refine condTP (Wp.seq ?_)
   refine regP (seqN (Wp.ret (seqR (blockR (seqR ?_)))))
   exact finP
  ·refine condFP (Wp.skip (seqN (Wp.seq ?_)))
   replace h:=bndS h; obtain ⟨e_1,g15,h⟩:=h
   replace h:=bndS h; obtain ⟨r0_5,g16,h⟩:=h
   refine drawP [] mixed (clsC 8 (tab_cons (zrm g16) (tab_nil _)) (clsN _)) (seqN (Wp.seq (Wp.reg ?_)))
   replace h:=bndS h; obtain ⟨r0_6,g17,h⟩:=h
   replace h:=retS h; subst h
   refine chunkT 7 (tab_cons (zjs g17) (tab_nil _)) ?_
   refine lastT (tab_nil _) (seqN (Wp.ret (blockR (seqR ?_))))
   exact finP
theorem zmb{w:TWorld}{o:TOp}{r0:Int}{e:TRaft}{v49:Bool}{r:TWorld} (h:zdp w o r0 e v49=some r):Wp Pg 177 0 (.cond (.t 49) (.seq (.seq (.reg none i20_R10) (.cond (.t 56) (.seq (.reg none i20_R11) .ret) .skip)) (.seq (.reg (some [(0,6),(6,8),(0,14),(2,14),(4,14),(6,14),(8,14),(10,14),(0,15),(2,15),(4,15),(6,15),(8,15),(10,15),(14,15)]) i20_R12) (.seq (.seq (.reg none i20_R13) (.cond (.t 87) (.seq (.reg none i20_R14) .ret) .skip)) (.seq (.reg (some [(1,12),(3,12),(6,12),(7,12),(8,12)]) i20_R15) (.seq (.reg none i20_R16) .ret))))) (.seq (.reg none i20_R17) (.cond (.t 108) (.seq (.reg none i20_R18) (.seq (.seq (.reg none i20_R19) (.cond (.t 120) (.seq (.reg none i20_R20) .ret) .skip)) (.seq (.reg none i20_R21) .ret))) (.seq (.reg none i20_R22) (.cond (.t 127) (.seq (.reg (some [(1,4)]) i20_R23) (.seq (.reg none i20_R24) (.seq (.seq (.reg none i20_R25) (.cond (.t 145) (.seq (.reg none i20_R26) .ret) .skip)) (.seq (.reg none i20_R27) .ret)))) (.seq (.reg none i20_R28) (.cond (.t 151) (.seq (.reg none i20_R29) (.seq (.seq (.reg none i20_R30) (.cond (.t 170) (.seq (.reg none i20_R31) .ret) .skip)) (.seq (.reg none i20_R32) .ret))) .skip))))))) ⟨[(0,.bad),(1,.bad),(2,.ptr 0 0),(3,.ptr 1 0),(4,.ptr 2 0),(5,.int .i64 r0),(6,.ptr 3 0),(7,.bad),(8,.bad),(9,.bad),(10,.bad),(11,.bad),(12,.bad),(13,.bad),(15,.bad),(16,.bad),(17,.bad),(18,.bad),(19,.bad),(20,.bad),(21,.bad),(34,.int .i64 o.Kind),(35,.bad),(49,.bool v49),(56,.bad),(87,.bad),(108,.bad),(120,.bad),(127,.bad),(145,.bad),(151,.bad),(170,.bad)],[],(hp22 w.R w.Net o.Kind o.Who o.N o.Data e.Id e.N e.Term e.Vote e.Role e.Lead e.Log.Base e.Log.BaseTerm e.Log.Entries e.Commit e.Snap e.Granted e.Next e.Match e.Clock e.Wait),4⟩ (blockQ 0 (seqQ Pg 177 0 (.seq (.reg none i20_R33) .ret) (qf_20 r))):=by
  unfold zdp at h
  replace h:=ifS h; rcases h with ⟨g8,h⟩ | ⟨g8,h⟩
  ·refine condTP (Wp.seq (Wp.seq ?_))
   refine regP (seqN ?_)
   replace h:=ifS h; rcases h with ⟨g9,h⟩ | ⟨g9,h⟩
   ·replace h:=retS h; subst h
    refine condTP (Wp.seq ?_)
    refine regP (seqN (Wp.ret (seqR (blockR (seqR ?_)))))
    exact finP
   ·refine condFP (Wp.skip (seqN (Wp.seq ?_)))
    replace h:=bndS h; obtain ⟨r0_3,g10,h⟩:=h
    replace h:=bndS h; obtain ⟨r0_4,g11,h⟩:=h
    refine drawP [] mixed (clsC 6 (tab_cons (zmi g10) (tab_nil _)) (clsC 10 (tab_cons (zsj g11) (tab_nil _)) (clsN _))) (seqN (Wp.seq (Wp.seq ?_)))
    replace h:=ifS h; rcases h with ⟨g12,h⟩ | ⟨g12,h⟩
    ·refine regP (seqN ?_)
     exact jumpK [.kill [2,3,5,6,34,49,56],.tidy] (zma h)
    ·replace h:=ifS h; rcases h with ⟨g13,h⟩ | ⟨g13,h⟩
     ·refine regP (seqN ?_)
      exact jumpK [.kill [2,3,5,6,34,49,56],.tidy] (zma h)
     ·refine regP (seqN ?_)
      exact jumpK [.kill [2,3,5,6,34,49,56],.tidy] (zma h)
  ·refine condFP (Wp.seq ?_)
   refine regP (seqN ?_)
   replace h:=ifS h; rcases h with ⟨g18,h⟩ | ⟨g18,h⟩
   ·refine condTP (Wp.seq (Wp.reg ?_))
    replace h:=bndS h; obtain ⟨r0_7,g19,h⟩:=h
    refine chunkT 4 (tab_cons (zrk g19) (tab_nil _)) ?_
    refine lastT (tab_nil _) (seqN (Wp.seq (Wp.seq ?_)))
    refine regP (seqN ?_)
    replace h:=ifS h; rcases h with ⟨g20,h⟩ | ⟨g20,h⟩
    ·replace h:=retS h; subst h
     refine condTP (Wp.seq ?_)
     refine regP (seqN (Wp.ret (seqR (blockR (seqR ?_)))))
     exact finP
    ·refine condFP (Wp.skip (seqN (Wp.seq (Wp.reg ?_))))
     replace h:=bndS h; obtain ⟨r0_8,g21,h⟩:=h
     replace h:=retS h; subst h
     refine chunkT 5 (tab_cons (zjs g21) (tab_nil _)) ?_
     refine lastT (tab_nil _) (seqN (Wp.ret (blockR (seqR ?_))))
     exact finP
   ·refine condFP (Wp.seq ?_)
    refine regP (seqN ?_)
    replace h:=ifS h; rcases h with ⟨g22,h⟩ | ⟨g22,h⟩
    ·refine condTP (Wp.seq ?_)
     replace h:=bndS h; obtain ⟨r0_9,g23,h⟩:=h
     refine drawP [] mixed (clsC 4 (tab_cons (zmi g23) (tab_nil _)) (clsN _)) (seqN (Wp.seq (Wp.reg ?_)))
     replace h:=bndS h; obtain ⟨r0_10,g24,h⟩:=h
     refine chunkT 6 (tab_cons (zrl g24) (tab_nil _)) ?_
     refine lastT (tab_nil _) (seqN (Wp.seq (Wp.seq ?_)))
     refine regP (seqN ?_)
     replace h:=ifS h; rcases h with ⟨g25,h⟩ | ⟨g25,h⟩
     ·replace h:=retS h; subst h
      refine condTP (Wp.seq ?_)
      refine regP (seqN (Wp.ret (seqR (blockR (seqR ?_)))))
      exact finP
     ·refine condFP (Wp.skip (seqN (Wp.seq (Wp.reg ?_))))
      replace h:=bndS h; obtain ⟨r0_11,g26,h⟩:=h
      replace h:=retS h; subst h
      refine chunkT 4 (tab_cons (zjs g26) (tab_nil _)) ?_
      refine lastT (tab_nil _) (seqN (Wp.ret (blockR (seqR ?_))))
      exact finP
    ·refine condFP (Wp.seq ?_)
     refine regP (seqN ?_)
     replace h:=ifS h; rcases h with ⟨g27,h⟩ | ⟨g27,h⟩
     ·refine condTP (Wp.seq (Wp.reg ?_))
      replace h:=bndS h; obtain ⟨r0_12,g28,h⟩:=h
      refine chunkT 13 (tab_cons (zrj g28) (tab_nil _)) ?_
      refine lastT (tab_nil _) (seqN (Wp.seq (Wp.seq ?_)))
      refine regP (seqN ?_)
      replace h:=ifS h; rcases h with ⟨g29,h⟩ | ⟨g29,h⟩
      ·replace h:=retS h; subst h
       refine condTP (Wp.seq ?_)
       refine regP (seqN (Wp.ret (seqR (blockR (seqR ?_)))))
       exact finP
      ·refine condFP (Wp.skip (seqN (Wp.seq (Wp.reg ?_))))
       replace h:=bndS h; obtain ⟨r0_13,g30,h⟩:=h
       replace h:=retS h; subst h
       refine chunkT 4 (tab_cons (zjs g30) (tab_nil _)) ?_
       refine lastT (tab_nil _) (seqN (Wp.ret (blockR (seqR ?_))))
       exact finP
     ·replace h:=retS h; subst h
      refine condFP (Wp.skip (blockN (seqN (Wp.seq ?_))))
      refine regP (seqN (Wp.ret ?_))
      exact finP
theorem zsp{w:TWorld}{o:TOp}{r:TWorld} (h:zkq w o=some r):Spec Pg 20 [.agg [sl TRaft.c w.R,sl TMsg.c w.Net],.agg [.int .i64 o.Kind,.int .i64 o.Who,.int .i64 o.N,sl (ci .u8) o.Data]] [] 0 (.agg [sl TRaft.c r.R,sl TMsg.c r.Net]) [] 0:=by
  refine Spec.intro Go.Proofs.Try.func20 i20_ok (le_of_ble rfl) ?_
  show Wp Pg 177 0 i20_B ⟨argEnv _ i20_V,[],_,_⟩ (qf_20 r)
  unfold zkq at h
  unfold i20_B
  refine weakP [] ?_
  refine Wp.seq (regP (seqN (Wp.seq (Wp.reg ?_))))
  replace h:=bndS h; obtain ⟨r0,g1,h⟩:=h
  refine chunkT 6 (tab_cons (zmi g1) (tab_nil _)) ?_
  refine lastT (tab_nil _) (seqN (Wp.seq ?_))
  replace h:=bndS h; obtain ⟨e,g2,h⟩:=h
  refine regP (seqN (Wp.seq (Wp.seq ?_)))
  refine regP (seqN (Wp.block (Wp.seq ?_)))
  refine regP (seqN ?_)
  replace h:=ifS h; rcases h with ⟨g3,h⟩ | ⟨g3,h⟩
  ·refine condTP (Wp.seq (Wp.reg ?_))
   replace h:=bndS h; obtain ⟨r0_1,g4,h⟩:=h
   refine chunkT 4 (tab_cons (zsm g4) (tab_nil _)) ?_
   refine lastT (tab_nil _) (seqN (Wp.seq (Wp.reg ?_)))
   replace h:=bndS h; obtain ⟨r0_2,g5,h⟩:=h
   replace h:=retS h; subst h
   refine chunkT 5 (tab_cons (zjs g5) (tab_nil _)) ?_
   refine lastT (tab_nil _) (seqN (Wp.ret (blockR (seqR ?_))))
   exact finP
  ·refine condFP (Wp.seq (Wp.seq ?_))
   refine regP (seqN ?_)
   replace h:=ifS h; rcases h with ⟨g6,h⟩ | ⟨g6,h⟩
   ·refine condTP (Wp.skip (seqN ?_))
    exact jumpK [.kill [0,1,7,8,9,10,11,12,13,15,16,17,18,19,20,21,35,56,87,108,120,127,145,151,170],.tidy] (zmb h)
   ·refine condFP (Wp.seq ?_)
    refine regP (seqN ?_)
    replace h:=ifS h; rcases h with ⟨g7,h⟩ | ⟨g7,h⟩
    ·refine condTP (Wp.skip (seqN ?_))
     exact jumpK [.kill [0,1,7,8,9,10,11,12,13,15,16,17,18,19,20,21,35,56,87,108,120,127,145,151,170],.tidy] (zmb h)
    ·refine condFP ?_
     refine regP (seqN ?_)
     exact jumpK [.kill [0,1,7,8,9,10,11,12,13,15,16,17,18,19,20,21,35,56,87,108,120,127,145,151,170],.tidy] (zmb h)
noncomputable abbrev qf_6(r:Bool):Ex→St→Prop:=FinQ 0 [.tmp 4] (.bool r) [] 0
noncomputable abbrev zaw(l:(List TOp))(rec0:Int→(List TRaft)→(List TMsg)→(List TEntry)→Option Bool)(r:Bool):Prop:=∀ {i:Int} {w_00:(List TRaft)} {w_10:(List TMsg)} {known:(List TEntry)},rec0 i w_00 w_10 known=some r→LWp Pg 127 0 i6_L2 ⟨[(0,.bad),(1,sl TOp.c l),(4,.bad),(5,.ptr 0 0),(6,.own 2 1 0 known.length false),(7,.int .i64 i),(8,.bad),(9,.bad),(10,.bad),(11,.bad),(12,.bad),(13,.bad),(14,.bad),(17,.bad),(25,.bad),(38,.bad),(52,.bad),(66,.bad),(74,.bad),(86,.bad),(125,.bad)],[],[(0,.box [sl TRaft.c w_00,sl TMsg.c w_10]),(1,.arr 2 (List.map TEntry.c known) 0)],2⟩ (blockQ 0 (seqQ Pg 127 0 (.seq (.reg none i6_R26) .ret) (qf_6 r)))
noncomputable abbrev zhw(l:(List TOp))(i:Int)(r0_4:TWorld)(rec0:Int→Int→(List TEntry)→Option Bool)(r:Bool):Prop:=∀ {top k:Int} {known_1:(List TEntry)},rec0 top k known_1=some r→LWp Pg 127 0 i6_L0 ⟨[(0,.bad),(1,sl TOp.c l),(4,.bad),(5,.ptr 0 0),(6,.own 2 1 0 known_1.length false),(7,.int .i64 i),(8,.int .i64 top),(9,.int .i64 k),(10,.bad),(11,.bad),(12,.bad),(13,.bad),(14,.bad),(17,.bad),(25,.bad),(38,.bad),(52,.bad),(66,.bad),(74,.bad),(86,.bad),(125,.bad)],[],[(0,.box [sl TRaft.c r0_4.R,sl TMsg.c r0_4.Net]),(1,.arr 2 (List.map TEntry.c known_1) 0)],2⟩ (blockQ 2 (seqQ Pg 127 0 (.seq (.seq (.reg none i6_R18) (.cond (.t 74) (.out 1) .skip)) (.seq (.reg none i6_R19) (.block 4 (.loop i6_L1)))) (blockQ 1 (seqQ Pg 127 0 (.reg none i6_R25) (loopQ Pg 127 0 i6_L2 (blockQ 0 (seqQ Pg 127 0 (.seq (.reg none i6_R26) .ret) (qf_6 r))))))))
noncomputable abbrev zhx(l:(List TOp))(i:Int)(r0_4:TWorld)(top_2:Int)(known_2:(List TEntry))(rec0:Int→Option Bool)(r:Bool):Prop:=∀ {at0:Int},rec0 at0=some r→LWp Pg 127 0 i6_L1 ⟨[(0,.bad),(1,sl TOp.c l),(4,.bad),(5,.ptr 0 0),(6,.own 2 1 0 known_2.length false),(7,.int .i64 i),(8,.int .i64 top_2),(9,.bad),(10,.bad),(11,.bad),(12,.int .i64 at0),(13,.bad),(14,.bad),(17,.bad),(25,.bad),(38,.bad),(52,.bad),(66,.bad),(74,.bad),(86,.bad),(125,.bad)],[],[(0,.box [sl TRaft.c r0_4.R,sl TMsg.c r0_4.Net]),(1,.arr 2 (List.map TEntry.c known_2) 0)],2⟩ (blockQ 4 (blockQ 1 (seqQ Pg 127 0 (.reg none i6_R25) (loopQ Pg 127 0 i6_L2 (blockQ 0 (seqQ Pg 127 0 (.seq (.reg none i6_R26) .ret) (qf_6 r)))))))
theorem znv {r:Bool} (h:ziq=some r):Wp Pg 127 0 (.seq (.reg none i6_R26) .ret) ⟨[(0,.bad),(1,.bad),(4,.bad),(5,.bad),(6,.bad),(7,.bad),(8,.bad),(9,.bad),(10,.bad),(11,.bad),(12,.bad),(13,.bad),(14,.bad),(17,.bad),(25,.bad),(38,.bad),(52,.bad),(66,.bad),(74,.bad),(86,.bad),(125,.bad)],[],[],0⟩ (qf_6 r):=by
  unfold ziq at h
  refine Wp.seq (Wp.reg ?_)
  replace h:=bndS h; obtain ⟨r0_7,g24,h⟩:=h
  replace h:=retS h; subst h
  refine chunkT 1 (tab_cons (zoo g24) (tab_nil _)) ?_
  refine lastT (tab_nil _) (seqN (Wp.ret ?_))
  exact finP
theorem zkn{l:(List TOp)}{i:Int}{r0_4:TWorld}{known_2:(List TEntry)}{r:Bool}{zb:Int→(List TRaft)→(List TMsg)→(List TEntry)→Option Bool}(zm:zaw l zb r)(h:zby zb i r0_4 known_2=some r):Wp Pg 127 0 (.reg none i6_R25) ⟨[(0,.bad),(1,sl TOp.c l),(4,.bad),(5,.ptr 0 0),(6,.own 2 1 0 known_2.length false),(7,.int .i64 i),(8,.bad),(9,.bad),(10,.bad),(11,.bad),(12,.bad),(13,.bad),(14,.bad),(17,.bad),(25,.bad),(38,.bad),(52,.bad),(66,.bad),(74,.bad),(86,.bad),(125,.bad)],[],[(0,.box [sl TRaft.c r0_4.R,sl TMsg.c r0_4.Net]),(1,.arr 2 (List.map TEntry.c known_2) 0)],2⟩ (loopQ Pg 127 0 i6_L2 (blockQ 0 (seqQ Pg 127 0 (.seq (.reg none i6_R26) .ret) (qf_6 r)))):=by
  unfold zby at h
  refine regP (loopN ?_)
  exact jumpL [] (zm h)
theorem zhy{l:(List TOp)}{i:Int}{r0_4:TWorld}{top_2:Int}{known_2:(List TEntry)}{at0:Int}{v125:Bool}{r:Bool}{zp:Int→Option Bool}(zce:zhx l i r0_4 top_2 known_2 zp r)(h:zcr zp at0 v125=some r):Wp Pg 127 0 (.cond (.t 125) (.seq (.reg none i6_R23) .ret) .skip) ⟨[(0,.bad),(1,sl TOp.c l),(4,.bad),(5,.ptr 0 0),(6,.own 2 1 0 known_2.length false),(7,.int .i64 i),(8,.int .i64 top_2),(9,.bad),(10,.bad),(11,.bad),(12,.int .i64 at0),(13,.bad),(14,.bad),(17,.bad),(25,.bad),(38,.bad),(52,.bad),(66,.bad),(74,.bad),(86,.bad),(125,.bool v125)],[],[(0,.box [sl TRaft.c r0_4.R,sl TMsg.c r0_4.Net]),(1,.arr 2 (List.map TEntry.c known_2) 0)],2⟩ (blockQ 5 (seqQ Pg 127 0 (.reg none i6_R24) (loopQ Pg 127 0 i6_L1 (blockQ 4 (blockQ 1 (seqQ Pg 127 0 (.reg none i6_R25) (loopQ Pg 127 0 i6_L2 (blockQ 0 (seqQ Pg 127 0 (.seq (.reg none i6_R26) .ret) (qf_6 r)))))))))):=by
  unfold zcr at h
  replace h:=ifS h; rcases h with ⟨g23,h⟩ | ⟨g23,h⟩
  ·replace h:=retS h; subst h
   refine condTP (Wp.seq ?_)
   refine regP (seqN (Wp.ret (blockR (seqR (loopR (blockR (blockR (seqR (loopR (blockR (seqR ?_)))))))))))
   exact finP
  ·refine condFP (Wp.skip (blockN (seqN ?_)))
   refine regP (loopN ?_)
   exact jumpL [.kill [125]] (zce h)
theorem zmx{l:(List TOp)}{i:Int}{r0_4:TWorld}{top_2:Int}{known_2:(List TEntry)}{r:Bool}{zb:Int→(List TRaft)→(List TMsg)→(List TEntry)→Option Bool}(zm:zaw l zb r){zp:Int→Option Bool}(zce:zhx l i r0_4 top_2 known_2 zp r){at0:Int}(h:zdm zb i r0_4 top_2 known_2 zp at0=some r):LWp Pg 127 0 i6_L1 ⟨[(0,.bad),(1,sl TOp.c l),(4,.bad),(5,.ptr 0 0),(6,.own 2 1 0 known_2.length false),(7,.int .i64 i),(8,.int .i64 top_2),(9,.bad),(10,.bad),(11,.bad),(12,.int .i64 at0),(13,.bad),(14,.bad),(17,.bad),(25,.bad),(38,.bad),(52,.bad),(66,.bad),(74,.bad),(86,.bad),(125,.bad)],[],[(0,.box [sl TRaft.c r0_4.R,sl TMsg.c r0_4.Net]),(1,.arr 2 (List.map TEntry.c known_2) 0)],2⟩ (blockQ 4 (blockQ 1 (seqQ Pg 127 0 (.reg none i6_R25) (loopQ Pg 127 0 i6_L2 (blockQ 0 (seqQ Pg 127 0 (.seq (.reg none i6_R26) .ret) (qf_6 r))))))):=by
  unfold zdm at h
  refine LWp.stepC i6_L1.eq_1 ?_
  refine Wp.seq (Wp.seq (regP (seqN ?_)))
  replace h:=ifS h; rcases h with ⟨g17,h⟩ | ⟨g17,h⟩
  ·refine condTP (Wp.skip (seqN (Wp.seq (Wp.block (Wp.seq (Wp.reg ?_))))))
   replace h:=bndS h; obtain ⟨e_4,g18,h⟩:=h
   replace h:=bndS h; obtain ⟨r0_6,g19,h⟩:=h
   refine chunkT 8 (tab_cons (zoi g19) (tab_nil _)) ?_
   refine lastT (tab_nil _) (seqN (Wp.seq ?_))
   replace h:=ifS h; rcases h with ⟨g20,h⟩ | ⟨g20,h⟩
   ·replace h:=bndS h; obtain ⟨e_5,g21,h⟩:=h
    replace h:=ifS h; rcases h with ⟨g22,h⟩ | ⟨g22,h⟩
    ·have:=ias_ownL (n:=2) (id:=1) (ex:=false) (k:=.i64) g21 rfl
     have:=ld_get (c:=TEntry.c) g21
     refine drawP [] mixed (clsN _) (seqN ?_)
     exact jumpK [.kill [13,14,86],.tidy] (zhy (l:=l) (i:=i) (r0_4:=r0_4) (top_2:=top_2) (known_2:=known_2) zce h)
    ·have:=ias_ownL (n:=2) (id:=1) (ex:=false) (k:=.i64) g21 rfl
     have:=ld_get (c:=TEntry.c) g21
     refine drawP [] mixed (clsN _) (seqN ?_)
     exact jumpK [.kill [13,14,86],.tidy] (zhy (l:=l) (i:=i) (r0_4:=r0_4) (top_2:=top_2) (known_2:=known_2) zce h)
   ·refine drawP [] mixed (clsN _) (seqN ?_)
    exact jumpK [.kill [13,14,86],.tidy] (zhy (l:=l) (i:=i) (r0_4:=r0_4) (top_2:=top_2) (known_2:=known_2) zce h)
  ·refine condFP (Wp.out (seqO (loopO (blockO (blockN (seqN ?_))))))
   exact jumpK [.kill [8,12,86]] (zkn (l:=l) zm h)
theorem znw{l:(List TOp)}{i:Int}{r0_4:TWorld}{top_2:Int}{known_2:(List TEntry)}{r:Bool}{zb:Int→(List TRaft)→(List TMsg)→(List TEntry)→Option Bool}(zm:zaw l zb r):∀ (n:Nat),zhx l i r0_4 top_2 known_2 (zbf zb i r0_4 top_2 known_2 n) r:=by
  intro n
  induction n with
  | zero=>intro at0 h; unfold zbf at h; cases h
  | succ n ih=>intro at0 h; unfold zbf at h; exact zmx (l:=l) zm ih h
theorem znx{l:(List TOp)}{i:Int}{r0_4:TWorld}{top_2:Int}{known_2:(List TEntry)}{r:Bool}{zb:Int→(List TRaft)→(List TMsg)→(List TEntry)→Option Bool}(zm:zaw l zb r)(h:zcs zb i r0_4 top_2 known_2=some r):Wp Pg 127 0 (.seq (.seq (.reg none i6_R18) (.cond (.t 74) (.out 1) .skip)) (.seq (.reg none i6_R19) (.block 4 (.loop i6_L1)))) ⟨[(0,.bad),(1,sl TOp.c l),(4,.bad),(5,.ptr 0 0),(6,.own 2 1 0 known_2.length false),(7,.int .i64 i),(8,.int .i64 top_2),(9,.bad),(10,.bad),(11,.bad),(12,.bad),(13,.bad),(14,.bad),(17,.bad),(25,.bad),(38,.bad),(52,.bad),(66,.bad),(74,.bad),(86,.bad),(125,.bad)],[],[(0,.box [sl TRaft.c r0_4.R,sl TMsg.c r0_4.Net]),(1,.arr 2 (List.map TEntry.c known_2) 0)],2⟩ (blockQ 1 (seqQ Pg 127 0 (.reg none i6_R25) (loopQ Pg 127 0 i6_L2 (blockQ 0 (seqQ Pg 127 0 (.seq (.reg none i6_R26) .ret) (qf_6 r)))))):=by
  unfold zcs at h
  refine Wp.seq (Wp.seq ?_)
  replace h:=bndS h; obtain ⟨e_3,g15,h⟩:=h
  refine regP (seqN ?_)
  replace h:=ifS h; rcases h with ⟨g16,h⟩ | ⟨g16,h⟩
  ·refine condTP (Wp.out (seqO (blockO (seqN ?_))))
   exact jumpK [.kill [8,74]] (zkn (l:=l) zm h)
  ·refine condFP (Wp.skip (seqN (Wp.seq ?_)))
   refine regP (seqN (Wp.block (Wp.loop ?_)))
   exact jumpL [.kill [74]] (znw (l:=l) zm _ h)
theorem zko{l:(List TOp)}{i:Int}{r0_4:TWorld}{k:Int}{r0_5:((List TEntry) × Bool)}{top_1:Int}{r:Bool}{zy:Int→Int→(List TEntry)→Option Bool}(zeh:zhw l i r0_4 zy r)(h:zep zy k r0_5 top_1=some r):Wp Pg 127 0 (.reg none i6_R17) ⟨[(0,.bad),(1,sl TOp.c l),(4,.bad),(5,.ptr 0 0),(6,.own 2 1 0 ((r0_5.1).length) false),(7,.int .i64 i),(8,.int .i64 top_1),(9,.int .i64 k),(10,.bad),(11,.bad),(12,.bad),(13,.bad),(14,.bad),(17,.bad),(25,.bad),(38,.bad),(52,.bad),(66,.bad),(74,.bad),(86,.bad),(125,.bad)],[],[(0,.box [sl TRaft.c r0_4.R,sl TMsg.c r0_4.Net]),(1,.arr 2 (List.map TEntry.c r0_5.1) 0)],2⟩ (loopQ Pg 127 0 i6_L0 (blockQ 2 (seqQ Pg 127 0 (.seq (.seq (.reg none i6_R18) (.cond (.t 74) (.out 1) .skip)) (.seq (.reg none i6_R19) (.block 4 (.loop i6_L1)))) (blockQ 1 (seqQ Pg 127 0 (.reg none i6_R25) (loopQ Pg 127 0 i6_L2 (blockQ 0 (seqQ Pg 127 0 (.seq (.reg none i6_R26) .ret) (qf_6 r))))))))):=by
  unfold zep at h
  refine regP (loopN ?_)
  exact jumpL [] (zeh h)
theorem zmy{l:(List TOp)}{i:Int}{r0_4:TWorld}{r:Bool}{zb:Int→(List TRaft)→(List TMsg)→(List TEntry)→Option Bool}(zm:zaw l zb r){zy:Int→Int→(List TEntry)→Option Bool}(zeh:zhw l i r0_4 zy r){top k:Int}{known_1:(List TEntry)}(h:zdn zb i r0_4 zy top k known_1=some r):LWp Pg 127 0 i6_L0 ⟨[(0,.bad),(1,sl TOp.c l),(4,.bad),(5,.ptr 0 0),(6,.own 2 1 0 known_1.length false),(7,.int .i64 i),(8,.int .i64 top),(9,.int .i64 k),(10,.bad),(11,.bad),(12,.bad),(13,.bad),(14,.bad),(17,.bad),(25,.bad),(38,.bad),(52,.bad),(66,.bad),(74,.bad),(86,.bad),(125,.bad)],[],[(0,.box [sl TRaft.c r0_4.R,sl TMsg.c r0_4.Net]),(1,.arr 2 (List.map TEntry.c known_1) 0)],2⟩ (blockQ 2 (seqQ Pg 127 0 (.seq (.seq (.reg none i6_R18) (.cond (.t 74) (.out 1) .skip)) (.seq (.reg none i6_R19) (.block 4 (.loop i6_L1)))) (blockQ 1 (seqQ Pg 127 0 (.reg none i6_R25) (loopQ Pg 127 0 i6_L2 (blockQ 0 (seqQ Pg 127 0 (.seq (.reg none i6_R26) .ret) (qf_6 r)))))))):=by
  unfold zdn at h
  refine LWp.stepC i6_L0.eq_1 ?_
  refine Wp.seq (Wp.seq (regP (seqN ?_)))
  replace h:=ifS h; rcases h with ⟨g9,h⟩ | ⟨g9,h⟩
  ·refine condTP (Wp.skip (seqN (Wp.seq (Wp.block (Wp.seq (Wp.reg ?_))))))
   replace h:=bndS h; obtain ⟨e_1,g10,h⟩:=h
   replace h:=bndS h; obtain ⟨r0_5,g11,h⟩:=h
   refine chunkF 7 (tab_cons (zql g11) (tab_nil _)) ?_
   refine lastT (tab_nil _) (seqN (Wp.seq (Wp.seq ?_)))
   refine regP (seqN ?_)
   replace h:=ifS h; rcases h with ⟨g12,h⟩ | ⟨g12,h⟩
   ·refine condFP (Wp.skip (seqN (Wp.seq ?_)))
    refine regP (seqN (Wp.seq ?_))
    replace h:=bndS h; obtain ⟨e_2,g13,h⟩:=h
    refine drawP [] mixed (clsN _) (seqN ?_)
    replace h:=ifS h; rcases h with ⟨g14,h⟩ | ⟨g14,h⟩
    ·refine condTP ?_
     refine regP (blockN (seqN ?_))
     exact jumpK [.kill [10,11,38,52,66],.tidy] (zko (l:=l) (i:=i) (r0_4:=r0_4) zeh h)
    ·refine condFP (Wp.skip (blockN (seqN ?_)))
     exact jumpK [.kill [10,11,38,52,66],.tidy] (zko (l:=l) (i:=i) (r0_4:=r0_4) zeh h)
   ·replace h:=retS h; subst h
    refine condTP (Wp.seq ?_)
    refine regP (seqN (Wp.ret (seqR (blockR (seqR (loopR (blockR (seqR (blockR (seqR (loopR (blockR (seqR ?_)))))))))))))
    exact finP
  ·refine condFP (Wp.out (seqO (loopO (blockO (seqN ?_)))))
   exact jumpK [.kill [9,38]] (znx (l:=l) zm h)
theorem zny{l:(List TOp)}{i:Int}{r0_4:TWorld}{r:Bool}{zb:Int→(List TRaft)→(List TMsg)→(List TEntry)→Option Bool}(zm:zaw l zb r):∀ (n:Nat),zhw l i r0_4 (zan zb i r0_4 n) r:=by
  intro n
  induction n with
  | zero=>intro top k known_1 h; unfold zan at h; cases h
  | succ n ih=>intro top k known_1 h; unfold zan at h; exact zmy (l:=l) zm ih h
theorem zmz{l:(List TOp)}{r:Bool} {zb:Int→(List TRaft)→(List TMsg)→(List TEntry)→Option Bool}(zm:zaw l zb r){i:Int}{w_00:(List TRaft)}{w_10:(List TMsg)}{known:(List TEntry)}(h:zdo l zb i w_00 w_10 known=some r):LWp Pg 127 0 i6_L2 ⟨[(0,.bad),(1,sl TOp.c l),(4,.bad),(5,.ptr 0 0),(6,.own 2 1 0 known.length false),(7,.int .i64 i),(8,.bad),(9,.bad),(10,.bad),(11,.bad),(12,.bad),(13,.bad),(14,.bad),(17,.bad),(25,.bad),(38,.bad),(52,.bad),(66,.bad),(74,.bad),(86,.bad),(125,.bad)],[],[(0,.box [sl TRaft.c w_00,sl TMsg.c w_10]),(1,.arr 2 (List.map TEntry.c known) 0)],2⟩ (blockQ 0 (seqQ Pg 127 0 (.seq (.reg none i6_R26) .ret) (qf_6 r))):=by
  unfold zdo at h
  refine LWp.stepC i6_L2.eq_1 ?_
  refine Wp.seq (Wp.seq (regP (seqN ?_)))
  replace h:=ifS h; rcases h with ⟨g6,h⟩ | ⟨g6,h⟩
  ·refine condTP (Wp.skip (seqN (Wp.seq (Wp.block (Wp.seq ?_)))))
   replace h:=bndS h; obtain ⟨e,g7,h⟩:=h
   replace h:=bndS h; obtain ⟨r0_4,g8,h⟩:=h
   refine drawP [] mixed (clsC 5 (tab_cons (zsp g8) (tab_nil _)) (clsN _)) (seqN (Wp.seq ?_))
   refine regP (seqN (Wp.seq (Wp.seq ?_)))
   refine regP (seqN (Wp.block (Wp.loop ?_)))
   exact jumpL [.kill [25],.tidy] (zny (l:=l) zm _ h)
  ·refine condFP (Wp.out (seqO (loopO (blockO (seqN ?_)))))
   exact jumpK [.kill [1,5,6,7,25],.tidy] (znv h)
theorem znz{l:(List TOp)}{r:Bool}:∀ (n:Nat),zaw l (zae l n) r:=by
  intro n
  induction n with
  | zero=>intro i w_00 w_10 known h; unfold zae at h; cases h
  | succ n ih=>intro i w_00 w_10 known h; unfold zae at h; exact zmz ih h
theorem w_m_law15_RaftCommits{n0:Int}{l:(List TOp)}{r:Bool} (h:zia n0 l=some r):Spec Pg 6 [.int .u8 n0,sl TOp.c l] [] 0 (.bool r) [] 0:=by
  refine Spec.intro Go.Proofs.Try.func6 i6_ok (le_of_ble rfl) ?_
  show Wp Pg 127 0 i6_B ⟨argEnv _ i6_V,[],_,_⟩ (qf_6 r)
  unfold zia at h
  unfold i6_B
  refine weakP [] ?_
  refine Wp.seq (regP (seqN (Wp.seq (Wp.seq (Wp.reg ?_)))))
  replace h:=bndS h; obtain ⟨r0,g1,h⟩:=h
  refine chunkT 2 (tab_cons (zsd g1) (tab_nil _)) ?_
  refine lastT (tab_nil _) (seqN ?_)
  replace h:=ifS h; rcases h with ⟨g2,h⟩ | ⟨g2,h⟩
  ·refine condFP (Wp.skip (seqN (Wp.seq (Wp.reg ?_))))
   replace h:=bndS h; obtain ⟨r0_2,g4,h⟩:=h
   refine chunkT 2 (tab_cons (zsi g4) (tab_nil _)) ?_
   replace h:=bndS h; obtain ⟨r0_3,g5,h⟩:=h
   refine chunkT 1 (tab_cons (zse g5) (tab_nil _)) ?_
   refine lastT (tab_nil _) (seqN (Wp.seq ?_))
   refine regP (seqN (Wp.seq (Wp.seq ?_)))
   refine regP (seqN (Wp.block (Wp.loop ?_)))
   exact jumpL [.kill [0,4,8,9,10,11,12,13,14,17,25,38,52,66,74,86,125],.at 6 (.virt 2),.tidy] (znz _ h)
  ·refine condTP (Wp.seq (Wp.reg ?_))
   replace h:=bndS h; obtain ⟨r0_1,g3,h⟩:=h
   replace h:=retS h; subst h
   refine chunkT 1 (tab_cons (zoo g3) (tab_nil _)) ?_
   refine lastT (tab_nil _) (seqN (Wp.ret (seqR ?_)))
   exact finP
end Go.Proofs.Ytgoachcogmlhcaa.R
