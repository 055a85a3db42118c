/- The program's functions answer what the models answer: 2. -/
import Derived.Test.YtgoachcogmlhcaaMW0
import Derived.Test.YtgoachcogmlhcaaMW1
set_option maxRecDepth 100000
set_option maxHeartbeats 1600000
set_option linter.unusedVariables false
set_option linter.unusedSimpArgs false
set_option linter.defProp false
noncomputable section
namespace Go.Proofs.Ytgoachcogmlhcaa.R
open Go Nat
noncomputable abbrev qf_48(r:(TRaft × (List TMsg))):Ex→St→Prop:=FinQ 0 [.cell 4 true 16,.tmp 5] (.tup [.agg [.int .i64 r.1.Id,.int .i64 r.1.N,.int .i64 r.1.Term,.int .i64 r.1.Vote,.int .i64 r.1.Role,.int .i64 r.1.Lead,.int .i64 r.1.Log.Base,.int .i64 r.1.Log.BaseTerm,sl TEntry.c r.1.Log.Entries,.int .i64 r.1.Commit,sl (ci .u8) r.1.Snap,sl cb r.1.Granted,sl (ci .i64) r.1.Next,sl (ci .i64) r.1.Match,.int .i64 r.1.Clock,.int .i64 r.1.Wait],sl TMsg.c r.2]) [] 0
theorem zaw{zqi zqj zqk zql zqm zqn zqo zqp:Int}{zqq:(List TEntry)}{zqr zpn zpo:Int}{zpp:(List Int)}{zpq:(List Bool)}{zpr zps:(List Int)}{zpt:(List TMsg)}{r:(TRaft × (List TMsg))} (h:zai zqi zqj zqk zql zqm zqn zqo zqp zqq zqr zpn zpo zpp zpq zpr zps zpt=some r):Wp Pg 180 0 (.seq (.reg none i48_R23) .ret) ⟨[(0,.bad),(1,.bad),(2,.bad),(3,.bad),(4,.ptr 0 0),(5,.bad),(6,.ptr 1 0),(56,.bad),(83,.bad),(89,.bad),(90,.bad),(95,.bad),(123,.bad),(126,.bad),(131,.bad),(158,.bad),(161,.bad),(166,.bad),(171,.bad)],[],(hp95 (0:Int) (0:Int) (0:Int) (0:Int) (0:Int) (0:Int) (0:Int) (0:Int) (0:Int) (0:Int) (0:Int) zqi zqj zqk zql zqm zqn zqo zqp zqq zqr zpp zpq zpr zps zpn zpo zpt),7⟩ (qf_48 r):=by
  unfold zai at h
  refine Wp.seq (Wp.reg ?_)
  replace h:=bndS h; obtain ⟨r0_13,g39,h⟩:=h
  replace h:=retS h; subst h
  refine chunkF 2 (tab_cons (ziw g39) (tab_nil _)) ?_
  refine lastT (tab_nil _) (seqN ?_)
  refine weakP [.cell 4 10 .frz,.cell 4 11 .frz,.cell 4 12 .frz,.cell 4 13 .frz,.at 5 .frz] (Wp.ret ?_)
  exact finP
theorem zhm{v158:Bool}{zow zox zoy zoz zpa zpb zpc zpd zpe znt znu:Int}{zpf:(List TEntry)}{znv:(List Int)}{znw:(List Bool)}{znx zny:(List Int)}{znz:(List TMsg)}{r:(TRaft × (List TMsg))} (h:zdv v158 zow zox zoy zoz zpa zpb zpc zpd zpe znt znu zpf znv znw znx zny znz=some r):Wp Pg 180 0 (.cond (.t 158) (.reg none i48_R16) .skip) ⟨[(0,.bad),(1,.bad),(2,.bad),(3,.bad),(4,.ptr 0 0),(5,.bad),(6,.ptr 1 0),(56,.bad),(83,.bad),(89,.bad),(90,.bad),(95,.bad),(123,.bad),(126,.bad),(131,.bad),(158,.bool v158),(161,.bad),(166,.bad),(171,.bad)],[],(hp13 (0:Int) (0:Int) (0:Int) (0:Int) (0:Int) (0:Int) (0:Int) (0:Int) (0:Int) (0:Int) (0:Int) zow zox zoy zoz zpa zpb zpc zpd zpf zpe znv znw znx zny znt znu znz),8⟩ (blockQ 0 (seqQ Pg 180 0 (.seq (.reg none i48_R23) .ret) (qf_48 r))):=by
  unfold zdv at h
  replace h:=ifS h; rcases h with ⟨g31,h⟩ | ⟨g31,h⟩
  ·refine condTP (Wp.reg ?_)
   replace h:=bndS h; obtain ⟨r0_9,g32,h⟩:=h
   refine lastF (tab_cons (znc g32) (tab_nil _)) (blockN (seqN ?_))
   exact jumpK [.kill [158],.tidy] (zaw h)
  ·refine condFP (Wp.skip (blockN (seqN ?_)))
   exact jumpK [.kill [158],.cell 6 8 .frz,.tidy] (zaw h)
theorem zhn{v123:Bool}{zbk zbl zbm zbn zbo zbp zbq zbr zbt zam zan:Int}{zbs:(List TEntry)}{zao:(List Int)}{zap:(List Bool)}{zw zaq:(List Int)}{zar:(List TMsg)}{r:(TRaft × (List TMsg))} (h:zco v123 zbk zbl zbm zbn zbo zbp zbq zbr zbt zam zan zbs zao zap zw zaq zar=some r):Wp Pg 180 0 (.cond (.t 123) (.reg none i48_R11) .skip) ⟨[(0,.bad),(1,.bad),(2,.bad),(3,.bad),(4,.ptr 0 0),(5,.bad),(6,.ptr 1 0),(56,.bad),(83,.bad),(89,.bad),(90,.bad),(95,.bad),(123,.bool v123),(126,.bad),(131,.bad),(158,.bad),(161,.bad),(166,.bad),(171,.bad)],[],(hp13 (0:Int) (0:Int) (0:Int) (0:Int) (0:Int) (0:Int) (0:Int) (0:Int) (0:Int) (0:Int) (0:Int) zbk zbl zbm zbn zbo zbp zbq zbr zbs zbt zao zap zw zaq zam zan zar),8⟩ (blockQ 0 (seqQ Pg 180 0 (.seq (.reg none i48_R23) .ret) (qf_48 r))):=by
  unfold zco at h
  replace h:=ifS h; rcases h with ⟨g22,h⟩ | ⟨g22,h⟩
  ·refine condTP (Wp.reg ?_)
   replace h:=bndS h; obtain ⟨r0_6,g23,h⟩:=h
   refine lastF (tab_cons (zmr g23) (tab_nil _)) (blockN (seqN ?_))
   exact jumpK [.kill [123],.tidy] (zaw h)
  ·refine condFP (Wp.skip (blockN (seqN ?_)))
   exact jumpK [.kill [123],.cell 6 8 .frz,.tidy] (zaw h)
theorem zlk{x0:TMsg}{m_00 m_10 m_20 m_30 m_40 m_50 m_60 m_70 m_90 zd zh:Int}{m_80:(List TEntry)}{ze:(List Int)}{zi:(List Bool)}{zc zj:(List Int)}{zk:(List TMsg)}{r:(TRaft × (List TMsg))} (h:zfg x0 m_00 m_10 m_20 m_30 m_40 m_50 m_60 m_70 m_90 zd zh m_80 ze zi zc zj zk=some r):Wp Pg 180 0 (.seq (.seq (.reg none i48_R6) (.block 0 (.seq (.reg none i48_R7) (.cond (.t 90) (.reg none i48_R8) (.seq (.reg none i48_R9) (.cond (.t 95) (.seq (.reg (some []) i48_R10) (.cond (.t 123) (.reg none i48_R11) .skip)) (.seq (.reg none i48_R12) (.cond (.t 126) (.reg none i48_R13) (.seq (.reg none i48_R14) (.cond (.t 131) (.seq (.reg (some []) i48_R15) (.cond (.t 158) (.reg none i48_R16) .skip)) (.seq (.reg none i48_R17) (.cond (.t 161) (.reg none i48_R18) (.seq (.reg none i48_R19) (.cond (.t 166) (.reg none i48_R20) (.seq (.reg none i48_R21) (.cond (.t 171) (.reg none i48_R22) .skip)))))))))))))))) (.seq (.reg none i48_R23) .ret)) ⟨[(0,.bad),(1,.bad),(2,.bad),(3,.ptr 0 0),(4,.ptr 1 0),(5,.bad),(6,.ptr 2 0),(56,.bad),(83,.bad),(89,.bad),(90,.bad),(95,.bad),(123,.bad),(126,.bad),(131,.bad),(158,.bad),(161,.bad),(166,.bad),(171,.bad)],[],(zrh x0.Kind x0.Group x0.From x0.To x0.Term x0.At x0.AtTerm x0.Commit x0.Ok x0.Entries x0.Data (0:Int) (0:Int) (0:Int) (0:Int) (0:Int) (0:Int) (0:Int) (0:Int) (0:Int) (0:Int) (0:Int) m_00 m_10 m_20 m_30 m_40 m_50 m_60 m_70 m_80 m_90 ze zi zc zj zd zh zk),9⟩ (qf_48 r):=by
  unfold zfg at h
  refine Wp.seq (Wp.seq (regP (seqN (Wp.block (Wp.seq ?_)))))
  refine regP (seqN ?_)
  replace h:=ifS h; rcases h with ⟨g15,h⟩ | ⟨g15,h⟩
  ·refine condTP (Wp.reg ?_)
   replace h:=bndS h; obtain ⟨r0_4,g16,h⟩:=h
   refine lastF (tab_cons (zoe g16) (tab_nil _)) (blockN (seqN ?_))
   exact jumpK [.kill [3,89,90],.cell 6 8 .frz,.tidy] (zaw h)
  ·refine condFP (Wp.seq ?_)
   refine regP (seqN ?_)
   replace h:=ifS h; rcases h with ⟨g17,h⟩ | ⟨g17,h⟩
   ·refine condTP (Wp.seq ?_)
    replace h:=ifS h; rcases h with ⟨g18,h⟩ | ⟨g18,h⟩
    ·replace h:=ifS h; rcases h with ⟨g19,h⟩ | ⟨g19,h⟩
     ·replace h:=ifS h; rcases h with ⟨g20,h⟩ | ⟨g20,h⟩
      ·replace h:=bndS h; obtain ⟨r0_5,g21,h⟩:=h
       refine drawP [68] mixed (clsC 25 (tab_cons (zjw g21) (tab_nil _)) (clsN _)) (seqN ?_)
       exact jumpK [.kill [3,89,90,95],.tidy] (zhn h)
      ·refine drawP [] mixed (clsN _) (seqN ?_)
       exact jumpK [.kill [3,89,90,95],.tidy] (zhn h)
     ·refine drawP [] mixed (clsN _) (seqN ?_)
      exact jumpK [.kill [3,89,90,95],.tidy] (zhn h)
    ·refine drawP [] mixed (clsN _) (seqN ?_)
     exact jumpK [.kill [3,89,90,95],.tidy] (zhn h)
   ·refine condFP (Wp.seq ?_)
    refine regP (seqN ?_)
    replace h:=ifS h; rcases h with ⟨g24,h⟩ | ⟨g24,h⟩
    ·refine condTP (Wp.reg ?_)
     replace h:=bndS h; obtain ⟨r0_7,g25,h⟩:=h
     refine lastF (tab_cons (zol g25) (tab_nil _)) (blockN (seqN ?_))
     exact jumpK [.kill [3,89,90,95,126],.cell 6 8 .frz,.tidy] (zaw h)
    ·refine condFP (Wp.seq ?_)
     refine regP (seqN ?_)
     replace h:=ifS h; rcases h with ⟨g26,h⟩ | ⟨g26,h⟩
     ·refine condTP (Wp.seq ?_)
      replace h:=ifS h; rcases h with ⟨g27,h⟩ | ⟨g27,h⟩
      ·replace h:=ifS h; rcases h with ⟨g28,h⟩ | ⟨g28,h⟩
       ·replace h:=ifS h; rcases h with ⟨g29,h⟩ | ⟨g29,h⟩
        ·replace h:=bndS h; obtain ⟨r0_8,g30,h⟩:=h
         refine drawP [68] mixed (clsC 24 (tab_cons (zjw g30) (tab_nil _)) (clsN _)) (seqN ?_)
         exact jumpK [.kill [3,89,90,95,126,131],.tidy] (zhm h)
        ·refine drawP [] mixed (clsN _) (seqN ?_)
         exact jumpK [.kill [3,89,90,95,126,131],.tidy] (zhm h)
       ·refine drawP [] mixed (clsN _) (seqN ?_)
        exact jumpK [.kill [3,89,90,95,126,131],.tidy] (zhm h)
      ·refine drawP [] mixed (clsN _) (seqN ?_)
       exact jumpK [.kill [3,89,90,95,126,131],.tidy] (zhm h)
     ·refine condFP (Wp.seq ?_)
      refine regP (seqN ?_)
      replace h:=ifS h; rcases h with ⟨g33,h⟩ | ⟨g33,h⟩
      ·refine condTP (Wp.reg ?_)
       replace h:=bndS h; obtain ⟨r0_10,g34,h⟩:=h
       refine lastF (tab_cons (znd g34) (tab_nil _)) (blockN (seqN ?_))
       exact jumpK [.kill [3,89,90,95,126,131,161],.tidy] (zaw h)
      ·refine condFP (Wp.seq ?_)
       refine regP (seqN ?_)
       replace h:=ifS h; rcases h with ⟨g35,h⟩ | ⟨g35,h⟩
       ·refine condTP (Wp.reg ?_)
        replace h:=bndS h; obtain ⟨r0_11,g36,h⟩:=h
        refine lastF (tab_cons (zom g36) (tab_nil _)) (blockN (seqN ?_))
        exact jumpK [.kill [3,89,90,95,126,131,161,166],.tidy] (zaw h)
       ·refine condFP (Wp.seq ?_)
        refine regP (seqN ?_)
        replace h:=ifS h; rcases h with ⟨g37,h⟩ | ⟨g37,h⟩
        ·refine condTP (Wp.reg ?_)
         replace h:=bndS h; obtain ⟨r0_12,g38,h⟩:=h
         refine lastF (tab_cons (zon g38) (tab_nil _)) (blockN (seqN ?_))
         exact jumpK [.kill [3,89,90,95,126,131,161,166,171],.tidy] (zaw h)
        ·refine condFP (Wp.skip (blockN (seqN ?_)))
         exact jumpK [.kill [3,89,90,95,126,131,161,166,171],.cell 6 8 .frz,.tidy] (zaw h)
theorem zho{x0:TMsg}{r0_1:Tmember}{v83:Bool}{r:(TRaft × (List TMsg))} (h:zcp x0 r0_1 v83=some r):Wp Pg 180 0 (.cond (.t 83) (.reg none i48_R5) .skip) ⟨[(0,.bad),(1,.bad),(2,.bad),(3,.ptr 0 0),(4,.ptr 1 0),(5,.bad),(6,.ptr 2 0),(56,.bad),(83,.bool v83),(89,.bad),(90,.bad),(95,.bad),(123,.bad),(126,.bad),(131,.bad),(158,.bad),(161,.bad),(166,.bad),(171,.bad)],[],(zrh x0.Kind x0.Group x0.From x0.To x0.Term x0.At x0.AtTerm x0.Commit x0.Ok x0.Entries x0.Data (0:Int) (0:Int) (0:Int) (0:Int) (0:Int) (0:Int) (0:Int) (0:Int) (0:Int) (0:Int) (0:Int) r0_1.Raft.Id r0_1.Raft.N r0_1.Raft.Term r0_1.Raft.Vote r0_1.Raft.Role r0_1.Raft.Lead r0_1.Raft.Log.Base r0_1.Raft.Log.BaseTerm r0_1.Raft.Log.Entries r0_1.Raft.Commit r0_1.Raft.Snap r0_1.Raft.Granted r0_1.Raft.Next r0_1.Raft.Match r0_1.Raft.Clock r0_1.Raft.Wait r0_1.f_out),9⟩ (seqQ Pg 180 0 (.seq (.seq (.reg none i48_R6) (.block 0 (.seq (.reg none i48_R7) (.cond (.t 90) (.reg none i48_R8) (.seq (.reg none i48_R9) (.cond (.t 95) (.seq (.reg (some []) i48_R10) (.cond (.t 123) (.reg none i48_R11) .skip)) (.seq (.reg none i48_R12) (.cond (.t 126) (.reg none i48_R13) (.seq (.reg none i48_R14) (.cond (.t 131) (.seq (.reg (some []) i48_R15) (.cond (.t 158) (.reg none i48_R16) .skip)) (.seq (.reg none i48_R17) (.cond (.t 161) (.reg none i48_R18) (.seq (.reg none i48_R19) (.cond (.t 166) (.reg none i48_R20) (.seq (.reg none i48_R21) (.cond (.t 171) (.reg none i48_R22) .skip)))))))))))))))) (.seq (.reg none i48_R23) .ret)) (qf_48 r)):=by
  unfold zcp at h
  replace h:=ifS h; rcases h with ⟨g13,h⟩ | ⟨g13,h⟩
  ·refine condTP (Wp.reg ?_)
   replace h:=bndS h; obtain ⟨r0_3,g14,h⟩:=h
   refine lastF (tab_cons (zeh g14) (tab_nil _)) (seqN ?_)
   exact jumpK [.kill [83],.tidy] (zlk h)
  ·refine condFP (Wp.skip (seqN ?_))
   exact jumpK [.kill [83]] (zlk h)
theorem zcr{x0:TMsg}{r0_1:Tmember}{v56:Bool}{r:(TRaft × (List TMsg))} (h:zba x0 r0_1 v56=some r):Wp Pg 180 0 (.cond (.t 56) (.seq (.reg none i48_R3) .ret) .skip) ⟨[(0,.bad),(1,.bad),(2,.bad),(3,.ptr 0 0),(4,.ptr 1 0),(5,.bad),(6,.ptr 2 0),(56,.bool v56),(83,.bad),(89,.bad),(90,.bad),(95,.bad),(123,.bad),(126,.bad),(131,.bad),(158,.bad),(161,.bad),(166,.bad),(171,.bad)],[],(zrh x0.Kind x0.Group x0.From x0.To x0.Term x0.At x0.AtTerm x0.Commit x0.Ok x0.Entries x0.Data (0:Int) (0:Int) (0:Int) (0:Int) (0:Int) (0:Int) (0:Int) (0:Int) (0:Int) (0:Int) (0:Int) r0_1.Raft.Id r0_1.Raft.N r0_1.Raft.Term r0_1.Raft.Vote r0_1.Raft.Role r0_1.Raft.Lead r0_1.Raft.Log.Base r0_1.Raft.Log.BaseTerm r0_1.Raft.Log.Entries r0_1.Raft.Commit r0_1.Raft.Snap r0_1.Raft.Granted r0_1.Raft.Next r0_1.Raft.Match r0_1.Raft.Clock r0_1.Raft.Wait r0_1.f_out),9⟩ (seqQ Pg 180 0 (.seq (.seq (.reg (some []) i48_R4) (.cond (.t 83) (.reg none i48_R5) .skip)) (.seq (.seq (.reg none i48_R6) (.block 0 (.seq (.reg none i48_R7) (.cond (.t 90) (.reg none i48_R8) (.seq (.reg none i48_R9) (.cond (.t 95) (.seq (.reg (some []) i48_R10) (.cond (.t 123) (.reg none i48_R11) .skip)) (.seq (.reg none i48_R12) (.cond (.t 126) (.reg none i48_R13) (.seq (.reg none i48_R14) (.cond (.t 131) (.seq (.reg (some []) i48_R15) (.cond (.t 158) (.reg none i48_R16) .skip)) (.seq (.reg none i48_R17) (.cond (.t 161) (.reg none i48_R18) (.seq (.reg none i48_R19) (.cond (.t 166) (.reg none i48_R20) (.seq (.reg none i48_R21) (.cond (.t 171) (.reg none i48_R22) .skip)))))))))))))))) (.seq (.reg none i48_R23) .ret))) (qf_48 r)):=by
  unfold zba at h
  replace h:=ifS h; rcases h with ⟨g8,h⟩ | ⟨g8,h⟩
  ·refine condTP (Wp.seq (Wp.reg ?_))
   replace h:=bndS h; obtain ⟨r0_2,g9,h⟩:=h
   replace h:=retS h; subst h
   refine chunkF 2 (tab_cons (znb g9) (tab_nil _)) ?_
   refine lastT (tab_nil _) (seqN ?_)
   refine weakP [.cell 4 8 .frz,.cell 4 10 .frz,.cell 4 11 .frz,.cell 4 12 .frz,.cell 4 13 .frz,.at 5 .frz] (Wp.ret (seqR ?_))
   exact finP
  ·refine condFP (Wp.skip (seqN (Wp.seq (Wp.seq ?_))))
   replace h:=ifS h; rcases h with ⟨g10,h⟩ | ⟨g10,h⟩
   ·replace h:=ifS h; rcases h with ⟨g11,h⟩ | ⟨g11,h⟩
    ·replace h:=ifS h; rcases h with ⟨g12,h⟩ | ⟨g12,h⟩
     ·refine drawP [] mixed (clsN _) (seqN ?_)
      exact jumpK [.kill [56],.tidy] (zho h)
     ·refine drawP [] mixed (clsN _) (seqN ?_)
      exact jumpK [.kill [56],.tidy] (zho h)
    ·refine drawP [] mixed (clsN _) (seqN ?_)
     exact jumpK [.kill [56],.tidy] (zho h)
   ·refine drawP [] mixed (clsN _) (seqN ?_)
    exact jumpK [.kill [56],.tidy] (zho h)
theorem zqh{r0:TRaft}{x0:TMsg}{r:(TRaft × (List TMsg))} (h:zin r0 x0=some r):Spec Pg 48 [.agg [.int .i64 r0.Id,.int .i64 r0.N,.int .i64 r0.Term,.int .i64 r0.Vote,.int .i64 r0.Role,.int .i64 r0.Lead,.int .i64 r0.Log.Base,.int .i64 r0.Log.BaseTerm,sl TEntry.c r0.Log.Entries,.int .i64 r0.Commit,sl (ci .u8) r0.Snap,sl cb r0.Granted,sl (ci .i64) r0.Next,sl (ci .i64) r0.Match,.int .i64 r0.Clock,.int .i64 r0.Wait],.agg [.int .i64 x0.Kind,.int .i64 x0.Group,.int .i64 x0.From,.int .i64 x0.To,.int .i64 x0.Term,.int .i64 x0.At,.int .i64 x0.AtTerm,.int .i64 x0.Commit,.bool x0.Ok,sl TEntry.c x0.Entries,sl (ci .u8) x0.Data]] [] 0 (.tup [.agg [.int .i64 r.1.Id,.int .i64 r.1.N,.int .i64 r.1.Term,.int .i64 r.1.Vote,.int .i64 r.1.Role,.int .i64 r.1.Lead,.int .i64 r.1.Log.Base,.int .i64 r.1.Log.BaseTerm,sl TEntry.c r.1.Log.Entries,.int .i64 r.1.Commit,sl (ci .u8) r.1.Snap,sl cb r.1.Granted,sl (ci .i64) r.1.Next,sl (ci .i64) r.1.Match,.int .i64 r.1.Clock,.int .i64 r.1.Wait],sl TMsg.c r.2]) [] 0:=by
  refine Spec.intro Go.Proofs.Try.func48 i48_ok (le_of_ble rfl) ?_
  show Wp Pg 180 0 i48_B ⟨argEnv _ i48_V,[],_,_⟩ (qf_48 r)
  unfold zin at h
  unfold i48_B
  refine weakP [] ?_
  refine Wp.seq (regP (seqN (Wp.seq (Wp.reg ?_))))
  replace h:=bndS h; obtain ⟨r0_1,g1,h⟩:=h
  refine chunkF 2 (tab_cons (zlp g1) (tab_nil _)) ?_
  refine lastT (tab_nil _) (seqN (Wp.seq (Wp.seq ?_)))
  replace h:=ifS h; rcases h with ⟨g2,h⟩ | ⟨g2,h⟩
  ·refine drawP [] mixed (clsN _) (seqN ?_)
   exact jumpK [.kill [0,1,2,5,83,89,90,95,123,126,131,158,161,166,171],.tidy] (zcr h)
  ·replace h:=ifS h; rcases h with ⟨g3,h⟩ | ⟨g3,h⟩
   ·refine drawP [] mixed (clsN _) (seqN ?_)
    exact jumpK [.kill [0,1,2,5,83,89,90,95,123,126,131,158,161,166,171],.tidy] (zcr h)
   ·replace h:=ifS h; rcases h with ⟨g4,h⟩ | ⟨g4,h⟩
    ·refine drawP [] mixed (clsN _) (seqN ?_)
     exact jumpK [.kill [0,1,2,5,83,89,90,95,123,126,131,158,161,166,171],.tidy] (zcr h)
    ·replace h:=ifS h; rcases h with ⟨g5,h⟩ | ⟨g5,h⟩
     ·refine drawP [] mixed (clsN _) (seqN ?_)
      exact jumpK [.kill [0,1,2,5,83,89,90,95,123,126,131,158,161,166,171],.tidy] (zcr h)
     ·replace h:=ifS h; rcases h with ⟨g6,h⟩ | ⟨g6,h⟩
      ·refine drawP [] mixed (clsN _) (seqN ?_)
       exact jumpK [.kill [0,1,2,5,83,89,90,95,123,126,131,158,161,166,171],.tidy] (zcr h)
      ·replace h:=ifS h; rcases h with ⟨g7,h⟩ | ⟨g7,h⟩
       ·refine drawP [] mixed (clsN _) (seqN ?_)
        exact jumpK [.kill [0,1,2,5,83,89,90,95,123,126,131,158,161,166,171],.tidy] (zcr h)
       ·refine drawP [] mixed (clsN _) (seqN ?_)
        exact jumpK [.kill [0,1,2,5,83,89,90,95,123,126,131,158,161,166,171],.tidy] (zcr h)
noncomputable abbrev qf_20(r:TWorld):Ex→St→Prop:=FinQ 0 [.cell 4 true 2] (.agg [sl TRaft.c r.R,sl TMsg.c r.Net]) [] 0
theorem zlf{r0_4:(TWorld × TMsg)}{v87:Bool}{r:TWorld} (h:zgh r0_4 v87=some r):Wp Pg 177 0 (.cond (.t 87) (.seq (.reg none i20_R14) .ret) .skip) ⟨[(0,.bad),(1,.bad),(2,.bad),(3,.bad),(4,.ptr 0 0),(5,.bad),(6,.bad),(7,.bad),(8,.bad),(9,.ptr 1 0),(10,.ptr 2 0),(11,.bad),(12,.bad),(13,.bad),(15,.bad),(16,.bad),(17,.bad),(18,.bad),(19,.bad),(20,.bad),(21,.bad),(34,.bad),(35,.bad),(49,.bad),(56,.bad),(87,.bool v87),(108,.bad),(120,.bad),(127,.bad),(145,.bad),(151,.bad),(170,.bad)],[],(hp9 r0_4.1.R r0_4.1.Net r0_4.2.Kind r0_4.2.Group r0_4.2.From r0_4.2.To r0_4.2.Term r0_4.2.At r0_4.2.AtTerm r0_4.2.Commit r0_4.2.Ok r0_4.2.Entries r0_4.2.Data),3⟩ (seqQ Pg 177 0 (.seq (.reg (some [(1,12),(3,12),(6,12),(7,12),(8,12)]) i20_R15) (.seq (.reg none i20_R16) .ret)) (blockQ 0 (seqQ Pg 177 0 (.seq (.reg none i20_R33) .ret) (qf_20 r)))):=by
  unfold zgh at h
  replace h:=ifS h; rcases h with ⟨g14,h⟩ | ⟨g14,h⟩
  ·replace h:=retS h; subst h
   refine condTP (Wp.seq ?_)
   refine regP (seqN (Wp.ret (seqR (blockR (seqR ?_)))))
   exact finP
  ·refine condFP (Wp.skip (seqN (Wp.seq ?_)))
   replace h:=bndS h; obtain ⟨e_1,g15,h⟩:=h
   replace h:=bndS h; obtain ⟨r0_5,g16,h⟩:=h
   refine drawP [] mixed (clsC 8 (tab_cons (zqh g16) (tab_nil _)) (clsN _)) (seqN (Wp.seq (Wp.reg ?_)))
   replace h:=bndS h; obtain ⟨r0_6,g17,h⟩:=h
   replace h:=retS h; subst h
   refine chunkT 7 (tab_cons (zjd g17) (tab_nil _)) ?_
   refine lastT (tab_nil _) (seqN (Wp.ret (blockR (seqR ?_))))
   exact finP
theorem zlg{w:TWorld}{o:TOp}{r0:Int}{e:TRaft}{v49:Bool}{r:TWorld} (h:zdh w o r0 e v49=some r):Wp Pg 177 0 (.cond (.t 49) (.seq (.seq (.reg none i20_R10) (.cond (.t 56) (.seq (.reg none i20_R11) .ret) .skip)) (.seq (.reg (some [(0,6),(6,8),(0,14),(2,14),(4,14),(6,14),(8,14),(10,14),(0,15),(2,15),(4,15),(6,15),(8,15),(10,15),(14,15)]) i20_R12) (.seq (.seq (.reg none i20_R13) (.cond (.t 87) (.seq (.reg none i20_R14) .ret) .skip)) (.seq (.reg (some [(1,12),(3,12),(6,12),(7,12),(8,12)]) i20_R15) (.seq (.reg none i20_R16) .ret))))) (.seq (.reg none i20_R17) (.cond (.t 108) (.seq (.reg none i20_R18) (.seq (.seq (.reg none i20_R19) (.cond (.t 120) (.seq (.reg none i20_R20) .ret) .skip)) (.seq (.reg none i20_R21) .ret))) (.seq (.reg none i20_R22) (.cond (.t 127) (.seq (.reg (some [(1,4)]) i20_R23) (.seq (.reg none i20_R24) (.seq (.seq (.reg none i20_R25) (.cond (.t 145) (.seq (.reg none i20_R26) .ret) .skip)) (.seq (.reg none i20_R27) .ret)))) (.seq (.reg none i20_R28) (.cond (.t 151) (.seq (.reg none i20_R29) (.seq (.seq (.reg none i20_R30) (.cond (.t 170) (.seq (.reg none i20_R31) .ret) .skip)) (.seq (.reg none i20_R32) .ret))) .skip))))))) ⟨[(0,.bad),(1,.bad),(2,.ptr 0 0),(3,.ptr 1 0),(4,.ptr 2 0),(5,.int .i64 r0),(6,.ptr 3 0),(7,.bad),(8,.bad),(9,.bad),(10,.bad),(11,.bad),(12,.bad),(13,.bad),(15,.bad),(16,.bad),(17,.bad),(18,.bad),(19,.bad),(20,.bad),(21,.bad),(34,.int .i64 o.Kind),(35,.bad),(49,.bool v49),(56,.bad),(87,.bad),(108,.bad),(120,.bad),(127,.bad),(145,.bad),(151,.bad),(170,.bad)],[],(hp7 w.R w.Net o.Kind o.Who o.N o.Data e.Id e.N e.Term e.Vote e.Role e.Lead e.Log.Base e.Log.BaseTerm e.Log.Entries e.Commit e.Snap e.Granted e.Next e.Match e.Clock e.Wait),4⟩ (blockQ 0 (seqQ Pg 177 0 (.seq (.reg none i20_R33) .ret) (qf_20 r))):=by
  unfold zdh at h
  replace h:=ifS h; rcases h with ⟨g8,h⟩ | ⟨g8,h⟩
  ·refine condTP (Wp.seq (Wp.seq ?_))
   refine regP (seqN ?_)
   replace h:=ifS h; rcases h with ⟨g9,h⟩ | ⟨g9,h⟩
   ·replace h:=retS h; subst h
    refine condTP (Wp.seq ?_)
    refine regP (seqN (Wp.ret (seqR (blockR (seqR ?_)))))
    exact finP
   ·refine condFP (Wp.skip (seqN (Wp.seq ?_)))
    replace h:=bndS h; obtain ⟨r0_3,g10,h⟩:=h
    replace h:=bndS h; obtain ⟨r0_4,g11,h⟩:=h
    refine drawP [] mixed (clsC 6 (tab_cons (zln g10) (tab_nil _)) (clsC 10 (tab_cons (zrd g11) (tab_nil _)) (clsN _))) (seqN (Wp.seq (Wp.seq ?_)))
    replace h:=ifS h; rcases h with ⟨g12,h⟩ | ⟨g12,h⟩
    ·refine regP (seqN ?_)
     exact jumpK [.kill [2,3,5,6,34,49,56],.tidy] (zlf h)
    ·replace h:=ifS h; rcases h with ⟨g13,h⟩ | ⟨g13,h⟩
     ·refine regP (seqN ?_)
      exact jumpK [.kill [2,3,5,6,34,49,56],.tidy] (zlf h)
     ·refine regP (seqN ?_)
      exact jumpK [.kill [2,3,5,6,34,49,56],.tidy] (zlf h)
  ·refine condFP (Wp.seq ?_)
   refine regP (seqN ?_)
   replace h:=ifS h; rcases h with ⟨g18,h⟩ | ⟨g18,h⟩
   ·refine condTP (Wp.seq (Wp.reg ?_))
    replace h:=bndS h; obtain ⟨r0_7,g19,h⟩:=h
    refine chunkT 4 (tab_cons (zqf g19) (tab_nil _)) ?_
    refine lastT (tab_nil _) (seqN (Wp.seq (Wp.seq ?_)))
    refine regP (seqN ?_)
    replace h:=ifS h; rcases h with ⟨g20,h⟩ | ⟨g20,h⟩
    ·replace h:=retS h; subst h
     refine condTP (Wp.seq ?_)
     refine regP (seqN (Wp.ret (seqR (blockR (seqR ?_)))))
     exact finP
    ·refine condFP (Wp.skip (seqN (Wp.seq (Wp.reg ?_))))
     replace h:=bndS h; obtain ⟨r0_8,g21,h⟩:=h
     replace h:=retS h; subst h
     refine chunkT 5 (tab_cons (zjd g21) (tab_nil _)) ?_
     refine lastT (tab_nil _) (seqN (Wp.ret (blockR (seqR ?_))))
     exact finP
   ·refine condFP (Wp.seq ?_)
    refine regP (seqN ?_)
    replace h:=ifS h; rcases h with ⟨g22,h⟩ | ⟨g22,h⟩
    ·refine condTP (Wp.seq ?_)
     replace h:=bndS h; obtain ⟨r0_9,g23,h⟩:=h
     refine drawP [] mixed (clsC 4 (tab_cons (zln g23) (tab_nil _)) (clsN _)) (seqN (Wp.seq (Wp.reg ?_)))
     replace h:=bndS h; obtain ⟨r0_10,g24,h⟩:=h
     refine chunkT 6 (tab_cons (zqg g24) (tab_nil _)) ?_
     refine lastT (tab_nil _) (seqN (Wp.seq (Wp.seq ?_)))
     refine regP (seqN ?_)
     replace h:=ifS h; rcases h with ⟨g25,h⟩ | ⟨g25,h⟩
     ·replace h:=retS h; subst h
      refine condTP (Wp.seq ?_)
      refine regP (seqN (Wp.ret (seqR (blockR (seqR ?_)))))
      exact finP
     ·refine condFP (Wp.skip (seqN (Wp.seq (Wp.reg ?_))))
      replace h:=bndS h; obtain ⟨r0_11,g26,h⟩:=h
      replace h:=retS h; subst h
      refine chunkT 4 (tab_cons (zjd g26) (tab_nil _)) ?_
      refine lastT (tab_nil _) (seqN (Wp.ret (blockR (seqR ?_))))
      exact finP
    ·refine condFP (Wp.seq ?_)
     refine regP (seqN ?_)
     replace h:=ifS h; rcases h with ⟨g27,h⟩ | ⟨g27,h⟩
     ·refine condTP (Wp.seq (Wp.reg ?_))
      replace h:=bndS h; obtain ⟨r0_12,g28,h⟩:=h
      refine chunkT 13 (tab_cons (zqe g28) (tab_nil _)) ?_
      refine lastT (tab_nil _) (seqN (Wp.seq (Wp.seq ?_)))
      refine regP (seqN ?_)
      replace h:=ifS h; rcases h with ⟨g29,h⟩ | ⟨g29,h⟩
      ·replace h:=retS h; subst h
       refine condTP (Wp.seq ?_)
       refine regP (seqN (Wp.ret (seqR (blockR (seqR ?_)))))
       exact finP
      ·refine condFP (Wp.skip (seqN (Wp.seq (Wp.reg ?_))))
       replace h:=bndS h; obtain ⟨r0_13,g30,h⟩:=h
       replace h:=retS h; subst h
       refine chunkT 4 (tab_cons (zjd g30) (tab_nil _)) ?_
       refine lastT (tab_nil _) (seqN (Wp.ret (blockR (seqR ?_))))
       exact finP
     ·replace h:=retS h; subst h
      refine condFP (Wp.skip (blockN (seqN (Wp.seq ?_))))
      refine regP (seqN (Wp.ret ?_))
      exact finP
theorem zrj{w:TWorld}{o:TOp}{r:TWorld} (h:zjy w o=some r):Spec Pg 20 [.agg [sl TRaft.c w.R,sl TMsg.c w.Net],.agg [.int .i64 o.Kind,.int .i64 o.Who,.int .i64 o.N,sl (ci .u8) o.Data]] [] 0 (.agg [sl TRaft.c r.R,sl TMsg.c r.Net]) [] 0:=by
  refine Spec.intro Go.Proofs.Try.func20 i20_ok (le_of_ble rfl) ?_
  show Wp Pg 177 0 i20_B ⟨argEnv _ i20_V,[],_,_⟩ (qf_20 r)
  unfold zjy at h
  unfold i20_B
  refine weakP [] ?_
  refine Wp.seq (regP (seqN (Wp.seq (Wp.reg ?_))))
  replace h:=bndS h; obtain ⟨r0,g1,h⟩:=h
  refine chunkT 6 (tab_cons (zln g1) (tab_nil _)) ?_
  refine lastT (tab_nil _) (seqN (Wp.seq ?_))
  replace h:=bndS h; obtain ⟨e,g2,h⟩:=h
  refine regP (seqN (Wp.seq (Wp.seq ?_)))
  refine regP (seqN (Wp.block (Wp.seq ?_)))
  refine regP (seqN ?_)
  replace h:=ifS h; rcases h with ⟨g3,h⟩ | ⟨g3,h⟩
  ·refine condTP (Wp.seq (Wp.reg ?_))
   replace h:=bndS h; obtain ⟨r0_1,g4,h⟩:=h
   refine chunkT 4 (tab_cons (zrg g4) (tab_nil _)) ?_
   refine lastT (tab_nil _) (seqN (Wp.seq (Wp.reg ?_)))
   replace h:=bndS h; obtain ⟨r0_2,g5,h⟩:=h
   replace h:=retS h; subst h
   refine chunkT 5 (tab_cons (zjd g5) (tab_nil _)) ?_
   refine lastT (tab_nil _) (seqN (Wp.ret (blockR (seqR ?_))))
   exact finP
  ·refine condFP (Wp.seq (Wp.seq ?_))
   refine regP (seqN ?_)
   replace h:=ifS h; rcases h with ⟨g6,h⟩ | ⟨g6,h⟩
   ·refine condTP (Wp.skip (seqN ?_))
    exact jumpK [.kill [0,1,7,8,9,10,11,12,13,15,16,17,18,19,20,21,35,56,87,108,120,127,145,151,170],.tidy] (zlg h)
   ·refine condFP (Wp.seq ?_)
    refine regP (seqN ?_)
    replace h:=ifS h; rcases h with ⟨g7,h⟩ | ⟨g7,h⟩
    ·refine condTP (Wp.skip (seqN ?_))
     exact jumpK [.kill [0,1,7,8,9,10,11,12,13,15,16,17,18,19,20,21,35,56,87,108,120,127,145,151,170],.tidy] (zlg h)
    ·refine condFP ?_
     refine regP (seqN ?_)
     exact jumpK [.kill [0,1,7,8,9,10,11,12,13,15,16,17,18,19,20,21,35,56,87,108,120,127,145,151,170],.tidy] (zlg h)
noncomputable abbrev qf_25(r:Int):Ex→St→Prop:=FinQ 0 [.tmp 2] (.int .i64 r) [] 0
theorem zoh{l:TLog}{r:Int} (h:zio l=some r):Spec Pg 25 [.agg [.int .i64 l.Base,.int .i64 l.BaseTerm,sl TEntry.c l.Entries]] [] 0 (.int .i64 r) [] 0:=by
  refine Spec.intro Go.Proofs.Try.func25 i25_ok (le_of_ble rfl) ?_
  show Wp Pg 9 0 i25_B ⟨argEnv _ i25_V,[],_,_⟩ (qf_25 r)
  unfold zio at h
  unfold i25_B
  refine weakP [] ?_
  replace h:=retS h; subst h
  refine Wp.seq (regP (seqN (Wp.seq ?_)))
  refine regP (seqN (Wp.ret ?_))
  exact finP
noncomputable abbrev qf_7(r:Bool):Ex→St→Prop:=FinQ 0 [.tmp 4] (.bool r) [] 0
noncomputable abbrev zei(l:(List TOp))(rec0:Int→(List TRaft)→(List TMsg)→Option Bool)(r:Bool):Prop:=∀ {i:Int} {w_00:(List TRaft)} {w_10:(List TMsg)},rec0 i w_00 w_10=some r→LWp Pg 133 0 i7_L1 ⟨[(0,.bad),(1,sl TOp.c l),(4,.bad),(5,.ptr 0 0),(6,.int .i64 i),(7,.bad),(8,.bad),(9,.bad),(10,.bad),(13,.bad),(21,.bad),(34,.bad),(70,.bad),(108,.bad),(130,.bad)],[],[(0,.box [sl TRaft.c w_00,sl TMsg.c w_10])],1⟩ (blockQ 0 (seqQ Pg 133 0 (.seq (.reg none i7_R19) .ret) (qf_7 r)))
noncomputable abbrev zej(l:(List TOp))(i:Int)(w_00:(List TRaft))(w_10:(List TMsg))(r0_4:TWorld)(rec0:Int→Option Bool)(r:Bool):Prop:=∀ {k:Int},rec0 k=some r→LWp Pg 133 0 i7_L0 ⟨[(0,.bad),(1,sl TOp.c l),(4,.bad),(5,.ptr 0 0),(6,.int .i64 i),(7,.ptr 1 0),(8,.int .i64 k),(9,.bad),(10,.bad),(13,.bad),(21,.bad),(34,.bad),(70,.bad),(108,.bad),(130,.bad)],[],[(0,.box [sl TRaft.c w_00,sl TMsg.c w_10]),(1,.box [sl TRaft.c r0_4.R,sl TMsg.c r0_4.Net])],2⟩ (blockQ 2 (seqQ Pg 133 0 (.reg none i7_R17) (blockQ 1 (seqQ Pg 133 0 (.reg none i7_R18) (loopQ Pg 133 0 i7_L1 (blockQ 0 (seqQ Pg 133 0 (.seq (.reg none i7_R19) .ret) (qf_7 r))))))))
theorem znp {r:Bool} (h:zit=some r):Wp Pg 133 0 (.seq (.reg none i7_R19) .ret) ⟨[(0,.bad),(1,.bad),(4,.bad),(5,.bad),(6,.bad),(7,.bad),(8,.bad),(9,.bad),(10,.bad),(13,.bad),(21,.bad),(34,.bad),(70,.bad),(108,.bad),(130,.bad)],[],[],0⟩ (qf_7 r):=by
  unfold zit at h
  refine Wp.seq (Wp.reg ?_)
  replace h:=bndS h; obtain ⟨r0_7,g30,h⟩:=h
  replace h:=retS h; subst h
  refine chunkT 1 (tab_cons (znj g30) (tab_nil _)) ?_
  refine lastT (tab_nil _) (seqN (Wp.ret ?_))
  exact finP
theorem znq{l:(List TOp)}{i:Int}{r0_4:TWorld}{r:Bool}{zf:Int→(List TRaft)→(List TMsg)→Option Bool}(zbd:zei l zf r)(h:zgw zf i r0_4=some r):Wp Pg 133 0 (.reg none i7_R18) ⟨[(0,.bad),(1,sl TOp.c l),(4,.bad),(5,.ptr 0 0),(6,.int .i64 i),(7,.bad),(8,.bad),(9,.bad),(10,.bad),(13,.bad),(21,.bad),(34,.bad),(70,.bad),(108,.bad),(130,.bad)],[],[(0,.box [sl TRaft.c r0_4.R,sl TMsg.c r0_4.Net])],1⟩ (loopQ Pg 133 0 i7_L1 (blockQ 0 (seqQ Pg 133 0 (.seq (.reg none i7_R19) .ret) (qf_7 r)))):=by
  unfold zgw at h
  refine regP (loopN ?_)
  exact jumpL [] (zbd h)
theorem zek{l:(List TOp)}{i:Int}{w_00:(List TRaft)}{w_10:(List TMsg)}{r0_4:TWorld}{k:Int}{v130:Bool}{r:Bool}{zb:Int→Option Bool}(zg:zej l i w_00 w_10 r0_4 zb r)(h:zbb zb k v130=some r):Wp Pg 133 0 (.cond (.t 130) (.seq (.reg none i7_R15) .ret) .skip) ⟨[(0,.bad),(1,sl TOp.c l),(4,.bad),(5,.ptr 0 0),(6,.int .i64 i),(7,.ptr 1 0),(8,.int .i64 k),(9,.bad),(10,.bad),(13,.bad),(21,.bad),(34,.bad),(70,.bad),(108,.bad),(130,.bool v130)],[],[(0,.box [sl TRaft.c w_00,sl TMsg.c w_10]),(1,.box [sl TRaft.c r0_4.R,sl TMsg.c r0_4.Net])],2⟩ (blockQ 3 (seqQ Pg 133 0 (.reg none i7_R16) (loopQ Pg 133 0 i7_L0 (blockQ 2 (seqQ Pg 133 0 (.reg none i7_R17) (blockQ 1 (seqQ Pg 133 0 (.reg none i7_R18) (loopQ Pg 133 0 i7_L1 (blockQ 0 (seqQ Pg 133 0 (.seq (.reg none i7_R19) .ret) (qf_7 r))))))))))):=by
  unfold zbb at h
  replace h:=ifS h; rcases h with ⟨g29,h⟩ | ⟨g29,h⟩
  ·replace h:=retS h; subst h
   refine condTP (Wp.seq ?_)
   refine regP (seqN (Wp.ret (blockR (seqR (loopR (blockR (seqR (blockR (seqR (loopR (blockR (seqR ?_))))))))))))
   exact finP
  ·refine condFP (Wp.skip (blockN (seqN ?_)))
   refine regP (loopN ?_)
   exact jumpL [.kill [130]] (zg h)
theorem zcn{l:(List TOp)}{i:Int}{w_00:(List TRaft)}{w_10:(List TMsg)}{r0_4:TWorld}{k:Int}{e_2:TRaft}{v108:Bool}{r:Bool}{zb:Int→Option Bool}(zg:zej l i w_00 w_10 r0_4 zb r)(h:zak zb k e_2 v108=some r):Wp Pg 133 0 (.cond (.t 108) (.seq (.reg none i7_R13) .ret) .skip) ⟨[(0,.bad),(1,sl TOp.c l),(4,.bad),(5,.ptr 0 0),(6,.int .i64 i),(7,.ptr 1 0),(8,.int .i64 k),(9,.bad),(10,.ptr 2 0),(13,.bad),(21,.bad),(34,.bad),(70,.bad),(108,.bool v108),(130,.bad)],[],(hp3 w_00 w_10 r0_4.R r0_4.Net e_2.Id e_2.N e_2.Term e_2.Vote e_2.Role e_2.Lead e_2.Log.Base e_2.Log.BaseTerm e_2.Log.Entries e_2.Commit e_2.Snap e_2.Granted e_2.Next e_2.Match e_2.Clock e_2.Wait),3⟩ (seqQ Pg 133 0 (.seq (.reg none i7_R14) (.cond (.t 130) (.seq (.reg none i7_R15) .ret) .skip)) (blockQ 3 (seqQ Pg 133 0 (.reg none i7_R16) (loopQ Pg 133 0 i7_L0 (blockQ 2 (seqQ Pg 133 0 (.reg none i7_R17) (blockQ 1 (seqQ Pg 133 0 (.reg none i7_R18) (loopQ Pg 133 0 i7_L1 (blockQ 0 (seqQ Pg 133 0 (.seq (.reg none i7_R19) .ret) (qf_7 r)))))))))))):=by
  unfold zak at h
  replace h:=ifS h; rcases h with ⟨g24,h⟩ | ⟨g24,h⟩
  ·replace h:=retS h; subst h
   refine condTP (Wp.seq ?_)
   refine regP (seqN (Wp.ret (seqR (blockR (seqR (loopR (blockR (seqR (blockR (seqR (loopR (blockR (seqR ?_)))))))))))))
   exact finP
  ·refine condFP (Wp.skip (seqN (Wp.seq ?_)))
   replace h:=ifS h; rcases h with ⟨g25,h⟩ | ⟨g25,h⟩
   ·replace h:=ifS h; rcases h with ⟨g26,h⟩ | ⟨g26,h⟩
    ·refine regP (seqN ?_)
     exact jumpK [.kill [10,108],.tidy] (zek (l:=l) (i:=i) (w_00:=w_00) (w_10:=w_10) (r0_4:=r0_4) zg h)
    ·replace h:=ifS h; rcases h with ⟨g27,h⟩ | ⟨g27,h⟩
     ·refine regP (seqN ?_)
      exact jumpK [.kill [10,108],.tidy] (zek (l:=l) (i:=i) (w_00:=w_00) (w_10:=w_10) (r0_4:=r0_4) zg h)
     ·refine regP (seqN ?_)
      exact jumpK [.kill [10,108],.tidy] (zek (l:=l) (i:=i) (w_00:=w_00) (w_10:=w_10) (r0_4:=r0_4) zg h)
   ·replace h:=ifS h; rcases h with ⟨g28,h⟩ | ⟨g28,h⟩
    ·refine regP (seqN ?_)
     exact jumpK [.kill [10,108],.tidy] (zek (l:=l) (i:=i) (w_00:=w_00) (w_10:=w_10) (r0_4:=r0_4) zg h)
    ·refine regP (seqN ?_)
     exact jumpK [.kill [10,108],.tidy] (zek (l:=l) (i:=i) (w_00:=w_00) (w_10:=w_10) (r0_4:=r0_4) zg h)
theorem zft{w_00:(List TRaft)}{w_10:(List TMsg)}{r0_4:TWorld}{l:(List TOp)}{i k:Int}{e_1 e_2:TRaft}{v70:Bool}{r:Bool}{zb:Int→Option Bool}(zg:zej l i w_00 w_10 r0_4 zb r)(h:zaa zb l i k e_1 e_2 v70=some r):Wp Pg 133 0 (.cond (.t 70) (.seq (.reg none i7_R11) .ret) .skip) ⟨[(0,.bad),(1,sl TOp.c l),(4,.bad),(5,.ptr 0 0),(6,.int .i64 i),(7,.ptr 1 0),(8,.int .i64 k),(9,.ptr 2 0),(10,.ptr 3 0),(13,.bad),(21,.bad),(34,.bad),(70,.bool v70),(108,.bad),(130,.bad)],[],(hp1 w_00 w_10 r0_4.R r0_4.Net e_1.Id e_1.N e_1.Term e_1.Vote e_1.Role e_1.Lead e_1.Log.Base e_1.Log.BaseTerm e_1.Log.Entries e_1.Commit e_1.Snap e_1.Granted e_1.Next e_1.Match e_1.Clock e_1.Wait e_2.Id e_2.N e_2.Term e_2.Vote e_2.Role e_2.Lead e_2.Log.Base e_2.Log.BaseTerm e_2.Log.Entries e_2.Commit e_2.Snap e_2.Granted e_2.Next e_2.Match e_2.Clock e_2.Wait),4⟩ (seqQ Pg 133 0 (.seq (.seq (.reg (some [(32,35)]) i7_R12) (.cond (.t 108) (.seq (.reg none i7_R13) .ret) .skip)) (.seq (.reg none i7_R14) (.cond (.t 130) (.seq (.reg none i7_R15) .ret) .skip))) (blockQ 3 (seqQ Pg 133 0 (.reg none i7_R16) (loopQ Pg 133 0 i7_L0 (blockQ 2 (seqQ Pg 133 0 (.reg none i7_R17) (blockQ 1 (seqQ Pg 133 0 (.reg none i7_R18) (loopQ Pg 133 0 i7_L1 (blockQ 0 (seqQ Pg 133 0 (.seq (.reg none i7_R19) .ret) (qf_7 r)))))))))))):=by
  unfold zaa at h
  replace h:=ifS h; rcases h with ⟨g15,h⟩ | ⟨g15,h⟩
  ·replace h:=retS h; subst h
   refine condTP (Wp.seq ?_)
   refine regP (seqN (Wp.ret (seqR (blockR (seqR (loopR (blockR (seqR (blockR (seqR (loopR (blockR (seqR ?_)))))))))))))
   exact finP
  ·refine condFP (Wp.skip (seqN (Wp.seq (Wp.seq ?_))))
   replace h:=ifS h; rcases h with ⟨g16,h⟩ | ⟨g16,h⟩
   ·replace h:=bndS h; obtain ⟨e_3,g17,h⟩:=h
    replace h:=ifS h; rcases h with ⟨g18,h⟩ | ⟨g18,h⟩
    ·refine drawP [] mixed (clsN _) (seqN ?_)
     exact jumpK [.kill [9,70],.tidy] (zcn (l:=l) (i:=i) (w_00:=w_00) (w_10:=w_10) (r0_4:=r0_4) zg h)
    ·replace h:=ifS h; rcases h with ⟨g19,h⟩ | ⟨g19,h⟩
     ·refine drawP [] mixed (clsN _) (seqN ?_)
      exact jumpK [.kill [9,70],.tidy] (zcn (l:=l) (i:=i) (w_00:=w_00) (w_10:=w_10) (r0_4:=r0_4) zg h)
     ·replace h:=ifS h; rcases h with ⟨g20,h⟩ | ⟨g20,h⟩
      ·refine drawP [] mixed (clsN _) (seqN ?_)
       exact jumpK [.kill [9,70],.tidy] (zcn (l:=l) (i:=i) (w_00:=w_00) (w_10:=w_10) (r0_4:=r0_4) zg h)
      ·replace h:=bndS h; obtain ⟨r0_5,g21,h⟩:=h
       refine drawP [] mixed (clsC 35 (tab_cons (zoh g21) (tab_nil _)) (clsN _)) (seqN ?_)
       exact jumpK [.kill [9,70],.tidy] (zcn (l:=l) (i:=i) (w_00:=w_00) (w_10:=w_10) (r0_4:=r0_4) zg h)
   ·replace h:=ifS h; rcases h with ⟨g22,h⟩ | ⟨g22,h⟩
    ·refine drawP [] mixed (clsN _) (seqN ?_)
     exact jumpK [.kill [9,70],.tidy] (zcn (l:=l) (i:=i) (w_00:=w_00) (w_10:=w_10) (r0_4:=r0_4) zg h)
    ·replace h:=bndS h; obtain ⟨r0_6,g23,h⟩:=h
     refine drawP [] mixed (clsC 35 (tab_cons (zoh g23) (tab_nil _)) (clsN _)) (seqN ?_)
     exact jumpK [.kill [9,70],.tidy] (zcn (l:=l) (i:=i) (w_00:=w_00) (w_10:=w_10) (r0_4:=r0_4) zg h)
theorem zmv{w_10:(List TMsg)}{l:(List TOp)}{i:Int}{w_00:(List TRaft)}{r0_4:TWorld}{r:Bool}{zf:Int→(List TRaft)→(List TMsg)→Option Bool}(zbd:zei l zf r){zb:Int→Option Bool}(zg:zej l i w_00 w_10 r0_4 zb r){k:Int}(h:zef zf l i w_00 r0_4 zb k=some r):LWp Pg 133 0 i7_L0 ⟨[(0,.bad),(1,sl TOp.c l),(4,.bad),(5,.ptr 0 0),(6,.int .i64 i),(7,.ptr 1 0),(8,.int .i64 k),(9,.bad),(10,.bad),(13,.bad),(21,.bad),(34,.bad),(70,.bad),(108,.bad),(130,.bad)],[],[(0,.box [sl TRaft.c w_00,sl TMsg.c w_10]),(1,.box [sl TRaft.c r0_4.R,sl TMsg.c r0_4.Net])],2⟩ (blockQ 2 (seqQ Pg 133 0 (.reg none i7_R17) (blockQ 1 (seqQ Pg 133 0 (.reg none i7_R18) (loopQ Pg 133 0 i7_L1 (blockQ 0 (seqQ Pg 133 0 (.seq (.reg none i7_R19) .ret) (qf_7 r)))))))):=by
  unfold zef at h
  refine LWp.stepC i7_L0.eq_1 ?_
  refine Wp.seq (Wp.seq (regP (seqN ?_)))
  replace h:=ifS h; rcases h with ⟨g9,h⟩ | ⟨g9,h⟩
  ·refine condTP (Wp.skip (seqN (Wp.seq (Wp.block (Wp.seq ?_)))))
   replace h:=bndS h; obtain ⟨e_1,g10,h⟩:=h
   replace h:=bndS h; obtain ⟨e_2,g11,h⟩:=h
   refine drawP [] mixed (clsN _) (seqN (Wp.seq (Wp.seq ?_)))
   replace h:=ifS h; rcases h with ⟨g12,h⟩ | ⟨g12,h⟩
   ·refine regP (seqN ?_)
    exact jumpK [.kill [34],.tidy] (zft (w_00:=w_00) (w_10:=w_10) (r0_4:=r0_4) zg h)
   ·replace h:=ifS h; rcases h with ⟨g13,h⟩ | ⟨g13,h⟩
    ·replace h:=ifS h; rcases h with ⟨g14,h⟩ | ⟨g14,h⟩
     ·refine regP (seqN ?_)
      exact jumpK [.kill [34],.tidy] (zft (w_00:=w_00) (w_10:=w_10) (r0_4:=r0_4) zg h)
     ·refine regP (seqN ?_)
      exact jumpK [.kill [34],.tidy] (zft (w_00:=w_00) (w_10:=w_10) (r0_4:=r0_4) zg h)
    ·refine regP (seqN ?_)
     exact jumpK [.kill [34],.tidy] (zft (w_00:=w_00) (w_10:=w_10) (r0_4:=r0_4) zg h)
  ·refine condFP (Wp.out (seqO (loopO (blockO (seqN ?_)))))
   refine regP (blockN (seqN ?_))
   exact jumpK [.kill [7,8,34],.tidy] (znq (l:=l) zbd h)
theorem znr{w_10:(List TMsg)}{l:(List TOp)}{i:Int}{w_00:(List TRaft)}{r0_4:TWorld}{r:Bool}{zf:Int→(List TRaft)→(List TMsg)→Option Bool}(zbd:zei l zf r):∀ (n:Nat),zej l i w_00 w_10 r0_4 (zbc zf l i w_00 r0_4 n) r:=by
  intro n
  induction n with
  | zero=>intro k h; unfold zbc at h; cases h
  | succ n ih=>intro k h; unfold zbc at h; exact zmv (w_10:=w_10) zbd ih h
theorem zmw{l:(List TOp)}{r:Bool} {zf:Int→(List TRaft)→(List TMsg)→Option Bool}(zbd:zei l zf r){i:Int}{w_00:(List TRaft)}{w_10:(List TMsg)}(h:zeg l zf i w_00 w_10=some r):LWp Pg 133 0 i7_L1 ⟨[(0,.bad),(1,sl TOp.c l),(4,.bad),(5,.ptr 0 0),(6,.int .i64 i),(7,.bad),(8,.bad),(9,.bad),(10,.bad),(13,.bad),(21,.bad),(34,.bad),(70,.bad),(108,.bad),(130,.bad)],[],[(0,.box [sl TRaft.c w_00,sl TMsg.c w_10])],1⟩ (blockQ 0 (seqQ Pg 133 0 (.seq (.reg none i7_R19) .ret) (qf_7 r))):=by
  unfold zeg at h
  refine LWp.stepC i7_L1.eq_1 ?_
  refine Wp.seq (Wp.seq (regP (seqN ?_)))
  replace h:=ifS h; rcases h with ⟨g6,h⟩ | ⟨g6,h⟩
  ·refine condTP (Wp.skip (seqN (Wp.seq (Wp.block (Wp.seq ?_)))))
   replace h:=bndS h; obtain ⟨e,g7,h⟩:=h
   replace h:=bndS h; obtain ⟨r0_4,g8,h⟩:=h
   refine drawP [] mixed (clsC 5 (tab_cons (zrj g8) (tab_nil _)) (clsN _)) (seqN (Wp.seq (Wp.seq ?_)))
   refine regP (seqN (Wp.block (Wp.loop ?_)))
   exact jumpL [.kill [21],.tidy] (znr (w_10:=w_10) zbd _ h)
  ·refine condFP (Wp.out (seqO (loopO (blockO (seqN ?_)))))
   exact jumpK [.kill [1,5,6,21],.tidy] (znp h)
theorem zns{l:(List TOp)}{r:Bool}:∀ (n:Nat),zei l (zal l n) r:=by
  intro n
  induction n with
  | zero=>intro i w_00 w_10 h; unfold zal at h; cases h
  | succ n ih=>intro i w_00 w_10 h; unfold zal at h; exact zmw ih h
theorem w_m_law15_RaftKeeps{n0:Int}{l:(List TOp)}{r:Bool} (h:zid n0 l=some r):Spec Pg 7 [.int .u8 n0,sl TOp.c l] [] 0 (.bool r) [] 0:=by
  refine Spec.intro Go.Proofs.Try.func7 i7_ok (le_of_ble rfl) ?_
  show Wp Pg 133 0 i7_B ⟨argEnv _ i7_V,[],_,_⟩ (qf_7 r)
  unfold zid at h
  unfold i7_B
  refine weakP [] ?_
  refine Wp.seq (regP (seqN (Wp.seq (Wp.seq (Wp.reg ?_)))))
  replace h:=bndS h; obtain ⟨r0,g1,h⟩:=h
  refine chunkT 2 (tab_cons (zqy g1) (tab_nil _)) ?_
  refine lastT (tab_nil _) (seqN ?_)
  replace h:=ifS h; rcases h with ⟨g2,h⟩ | ⟨g2,h⟩
  ·refine condFP (Wp.skip (seqN (Wp.seq (Wp.reg ?_))))
   replace h:=bndS h; obtain ⟨r0_2,g4,h⟩:=h
   refine chunkT 2 (tab_cons (zrc g4) (tab_nil _)) ?_
   replace h:=bndS h; obtain ⟨r0_3,g5,h⟩:=h
   refine chunkT 1 (tab_cons (zqz g5) (tab_nil _)) ?_
   refine lastT (tab_nil _) (seqN (Wp.seq (Wp.seq ?_)))
   refine regP (seqN (Wp.block (Wp.loop ?_)))
   exact jumpL [.kill [0,4,7,8,9,10,13,21,34,70,108,130]] (zns _ h)
  ·refine condTP (Wp.seq (Wp.reg ?_))
   replace h:=bndS h; obtain ⟨r0_1,g3,h⟩:=h
   replace h:=retS h; subst h
   refine chunkT 1 (tab_cons (znj g3) (tab_nil _)) ?_
   refine lastT (tab_nil _) (seqN (Wp.ret (seqR ?_)))
   exact finP
end Go.Proofs.Ytgoachcogmlhcaa.R
