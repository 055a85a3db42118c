/- The program's functions answer what the models answer: 2. -/
import Derived.Test.YtgoachcogmlhcaaMW0
import Derived.Test.YtgoachcogmlhcaaMW1
set_option maxRecDepth 100000
set_option maxHeartbeats 1600000
set_option linter.unusedVariables false
set_option linter.unusedSimpArgs false
set_option linter.defProp false
noncomputable section
namespace Go.Proofs.Ytgoachcogmlhcaa.R
open Go Nat
noncomputable abbrev qf_48(r:(TRaft × (List TMsg))):Ex→St→Prop:=FinQ 0 [.cell 4 true 16,.tmp 5] (.tup [.agg [.int .i64 r.1.Id,.int .i64 r.1.N,.int .i64 r.1.Term,.int .i64 r.1.Vote,.int .i64 r.1.Role,.int .i64 r.1.Lead,.int .i64 r.1.Log.Base,.int .i64 r.1.Log.BaseTerm,sl TEntry.c r.1.Log.Entries,.int .i64 r.1.Commit,sl (ci .u8) r.1.Snap,sl cb r.1.Granted,sl (ci .i64) r.1.Next,sl (ci .i64) r.1.Match,.int .i64 r.1.Clock,.int .i64 r.1.Wait],sl TMsg.c r.2]) [] 0
theorem zax{zrv zrw zrx zry zrz zsa zsb zsc:Int}{zsd:(List TEntry)}{zse zra zrb:Int}{zrc:(List Int)}{zrd:(List Bool)}{zre zrf:(List Int)}{zrg:(List TMsg)}{r:(TRaft × (List TMsg))} (h:zak zrv zrw zrx zry zrz zsa zsb zsc zsd zse zra zrb zrc zrd zre zrf zrg=some r):Wp Pg 180 0 (.seq (.reg none i48_R23) .ret) ⟨[(0,.bad),(1,.bad),(2,.bad),(3,.bad),(4,.ptr 0 0),(5,.bad),(6,.ptr 1 0),(56,.bad),(83,.bad),(89,.bad),(90,.bad),(95,.bad),(123,.bad),(126,.bad),(131,.bad),(158,.bad),(161,.bad),(166,.bad),(171,.bad)],[],(hp92 (0:Int) (0:Int) (0:Int) (0:Int) (0:Int) (0:Int) (0:Int) (0:Int) (0:Int) (0:Int) (0:Int) zrv zrw zrx zry zrz zsa zsb zsc zsd zse zrc zrd zre zrf zra zrb zrg),7⟩ (qf_48 r):=by
  unfold zak at h
  refine Wp.seq (Wp.reg ?_)
  replace h:=bndS h; obtain ⟨r0_13,g39,h⟩:=h
  replace h:=retS h; subst h
  refine chunkF 2 (tab_cons (zjp g39) (tab_nil _)) ?_
  refine lastT (tab_nil _) (seqN ?_)
  refine weakP [.cell 4 10 .frz,.cell 4 11 .frz,.cell 4 12 .frz,.cell 4 13 .frz,.at 5 .frz] (Wp.ret ?_)
  exact finP
theorem zif{v158:Bool}{zqh zqi zqj zqk zql zqm zqn zqo zqp zox zoy:Int}{zqq:(List TEntry)}{zoz:(List Int)}{zpa:(List Bool)}{zpb zpc:(List Int)}{zpd:(List TMsg)}{r:(TRaft × (List TMsg))} (h:zea v158 zqh zqi zqj zqk zql zqm zqn zqo zqp zox zoy zqq zoz zpa zpb zpc zpd=some r):Wp Pg 180 0 (.cond (.t 158) (.reg none i48_R16) .skip) ⟨[(0,.bad),(1,.bad),(2,.bad),(3,.bad),(4,.ptr 0 0),(5,.bad),(6,.ptr 1 0),(56,.bad),(83,.bad),(89,.bad),(90,.bad),(95,.bad),(123,.bad),(126,.bad),(131,.bad),(158,.bool v158),(161,.bad),(166,.bad),(171,.bad)],[],(hp10 (0:Int) (0:Int) (0:Int) (0:Int) (0:Int) (0:Int) (0:Int) (0:Int) (0:Int) (0:Int) (0:Int) zqh zqi zqj zqk zql zqm zqn zqo zqq zqp zoz zpa zpb zpc zox zoy zpd),8⟩ (blockQ 0 (seqQ Pg 180 0 (.seq (.reg none i48_R23) .ret) (qf_48 r))):=by
  unfold zea at h
  replace h:=ifS h; rcases h with ⟨g31,h⟩ | ⟨g31,h⟩
  ·refine condTP (Wp.reg ?_)
   replace h:=bndS h; obtain ⟨r0_9,g32,h⟩:=h
   refine lastF (tab_cons (zog g32) (tab_nil _)) (blockN (seqN ?_))
   exact jumpK [.kill [158],.tidy] (zax h)
  ·refine condFP (Wp.skip (blockN (seqN ?_)))
   exact jumpK [.kill [158],.cell 6 8 .frz,.tidy] (zax h)
theorem zig{v123:Bool}{zbl zbm zbn zbo zbp zbq zbr zbs zbu zam zan:Int}{zbt:(List TEntry)}{zao:(List Int)}{zap:(List Bool)}{zx zaq:(List Int)}{zar:(List TMsg)}{r:(TRaft × (List TMsg))} (h:zct v123 zbl zbm zbn zbo zbp zbq zbr zbs zbu zam zan zbt zao zap zx zaq zar=some r):Wp Pg 180 0 (.cond (.t 123) (.reg none i48_R11) .skip) ⟨[(0,.bad),(1,.bad),(2,.bad),(3,.bad),(4,.ptr 0 0),(5,.bad),(6,.ptr 1 0),(56,.bad),(83,.bad),(89,.bad),(90,.bad),(95,.bad),(123,.bool v123),(126,.bad),(131,.bad),(158,.bad),(161,.bad),(166,.bad),(171,.bad)],[],(hp10 (0:Int) (0:Int) (0:Int) (0:Int) (0:Int) (0:Int) (0:Int) (0:Int) (0:Int) (0:Int) (0:Int) zbl zbm zbn zbo zbp zbq zbr zbs zbt zbu zao zap zx zaq zam zan zar),8⟩ (blockQ 0 (seqQ Pg 180 0 (.seq (.reg none i48_R23) .ret) (qf_48 r))):=by
  unfold zct at h
  replace h:=ifS h; rcases h with ⟨g22,h⟩ | ⟨g22,h⟩
  ·refine condTP (Wp.reg ?_)
   replace h:=bndS h; obtain ⟨r0_6,g23,h⟩:=h
   refine lastF (tab_cons (znw g23) (tab_nil _)) (blockN (seqN ?_))
   exact jumpK [.kill [123],.tidy] (zax h)
  ·refine condFP (Wp.skip (blockN (seqN ?_)))
   exact jumpK [.kill [123],.cell 6 8 .frz,.tidy] (zax h)
theorem zmk{x0:TMsg}{m_00 m_10 m_20 m_30 m_40 m_50 m_60 m_70 m_90 zd zf:Int}{m_80:(List TEntry)}{ze:(List Int)}{zg:(List Bool)}{zb zh:(List Int)}{zi:(List TMsg)}{r:(TRaft × (List TMsg))} (h:zfo x0 m_00 m_10 m_20 m_30 m_40 m_50 m_60 m_70 m_90 zd zf m_80 ze zg zb zh zi=some r):Wp Pg 180 0 (.seq (.seq (.reg none i48_R6) (.block 0 (.seq (.reg none i48_R7) (.cond (.t 90) (.reg none i48_R8) (.seq (.reg none i48_R9) (.cond (.t 95) (.seq (.reg (some []) i48_R10) (.cond (.t 123) (.reg none i48_R11) .skip)) (.seq (.reg none i48_R12) (.cond (.t 126) (.reg none i48_R13) (.seq (.reg none i48_R14) (.cond (.t 131) (.seq (.reg (some []) i48_R15) (.cond (.t 158) (.reg none i48_R16) .skip)) (.seq (.reg none i48_R17) (.cond (.t 161) (.reg none i48_R18) (.seq (.reg none i48_R19) (.cond (.t 166) (.reg none i48_R20) (.seq (.reg none i48_R21) (.cond (.t 171) (.reg none i48_R22) .skip)))))))))))))))) (.seq (.reg none i48_R23) .ret)) ⟨[(0,.bad),(1,.bad),(2,.bad),(3,.ptr 0 0),(4,.ptr 1 0),(5,.bad),(6,.ptr 2 0),(56,.bad),(83,.bad),(89,.bad),(90,.bad),(95,.bad),(123,.bad),(126,.bad),(131,.bad),(158,.bad),(161,.bad),(166,.bad),(171,.bad)],[],(zsw x0.Kind x0.Group x0.From x0.To x0.Term x0.At x0.AtTerm x0.Commit x0.Ok x0.Entries x0.Data (0:Int) (0:Int) (0:Int) (0:Int) (0:Int) (0:Int) (0:Int) (0:Int) (0:Int) (0:Int) (0:Int) m_00 m_10 m_20 m_30 m_40 m_50 m_60 m_70 m_80 m_90 ze zg zb zh zd zf zi),9⟩ (qf_48 r):=by
  unfold zfo at h
  refine Wp.seq (Wp.seq (regP (seqN (Wp.block (Wp.seq ?_)))))
  refine regP (seqN ?_)
  replace h:=ifS h; rcases h with ⟨g15,h⟩ | ⟨g15,h⟩
  ·refine condTP (Wp.reg ?_)
   replace h:=bndS h; obtain ⟨r0_4,g16,h⟩:=h
   refine lastF (tab_cons (zpi g16) (tab_nil _)) (blockN (seqN ?_))
   exact jumpK [.kill [3,89,90],.cell 6 8 .frz,.tidy] (zax h)
  ·refine condFP (Wp.seq ?_)
   refine regP (seqN ?_)
   replace h:=ifS h; rcases h with ⟨g17,h⟩ | ⟨g17,h⟩
   ·refine condTP (Wp.seq ?_)
    replace h:=ifS h; rcases h with ⟨g18,h⟩ | ⟨g18,h⟩
    ·replace h:=ifS h; rcases h with ⟨g19,h⟩ | ⟨g19,h⟩
     ·replace h:=ifS h; rcases h with ⟨g20,h⟩ | ⟨g20,h⟩
      ·replace h:=bndS h; obtain ⟨r0_5,g21,h⟩:=h
       refine drawP [68] mixed (clsC 25 (tab_cons (zks g21) (tab_nil _)) (clsN _)) (seqN ?_)
       exact jumpK [.kill [3,89,90,95],.tidy] (zig h)
      ·refine drawP [] mixed (clsN _) (seqN ?_)
       exact jumpK [.kill [3,89,90,95],.tidy] (zig h)
     ·refine drawP [] mixed (clsN _) (seqN ?_)
      exact jumpK [.kill [3,89,90,95],.tidy] (zig h)
    ·refine drawP [] mixed (clsN _) (seqN ?_)
     exact jumpK [.kill [3,89,90,95],.tidy] (zig h)
   ·refine condFP (Wp.seq ?_)
    refine regP (seqN ?_)
    replace h:=ifS h; rcases h with ⟨g24,h⟩ | ⟨g24,h⟩
    ·refine condTP (Wp.reg ?_)
     replace h:=bndS h; obtain ⟨r0_7,g25,h⟩:=h
     refine lastF (tab_cons (zpu g25) (tab_nil _)) (blockN (seqN ?_))
     exact jumpK [.kill [3,89,90,95,126],.cell 6 8 .frz,.tidy] (zax h)
    ·refine condFP (Wp.seq ?_)
     refine regP (seqN ?_)
     replace h:=ifS h; rcases h with ⟨g26,h⟩ | ⟨g26,h⟩
     ·refine condTP (Wp.seq ?_)
      replace h:=ifS h; rcases h with ⟨g27,h⟩ | ⟨g27,h⟩
      ·replace h:=ifS h; rcases h with ⟨g28,h⟩ | ⟨g28,h⟩
       ·replace h:=ifS h; rcases h with ⟨g29,h⟩ | ⟨g29,h⟩
        ·replace h:=bndS h; obtain ⟨r0_8,g30,h⟩:=h
         refine drawP [68] mixed (clsC 24 (tab_cons (zks g30) (tab_nil _)) (clsN _)) (seqN ?_)
         exact jumpK [.kill [3,89,90,95,126,131],.tidy] (zif h)
        ·refine drawP [] mixed (clsN _) (seqN ?_)
         exact jumpK [.kill [3,89,90,95,126,131],.tidy] (zif h)
       ·refine drawP [] mixed (clsN _) (seqN ?_)
        exact jumpK [.kill [3,89,90,95,126,131],.tidy] (zif h)
      ·refine drawP [] mixed (clsN _) (seqN ?_)
       exact jumpK [.kill [3,89,90,95,126,131],.tidy] (zif h)
     ·refine condFP (Wp.seq ?_)
      refine regP (seqN ?_)
      replace h:=ifS h; rcases h with ⟨g33,h⟩ | ⟨g33,h⟩
      ·refine condTP (Wp.reg ?_)
       replace h:=bndS h; obtain ⟨r0_10,g34,h⟩:=h
       refine lastF (tab_cons (zoh g34) (tab_nil _)) (blockN (seqN ?_))
       exact jumpK [.kill [3,89,90,95,126,131,161],.tidy] (zax h)
      ·refine condFP (Wp.seq ?_)
       refine regP (seqN ?_)
       replace h:=ifS h; rcases h with ⟨g35,h⟩ | ⟨g35,h⟩
       ·refine condTP (Wp.reg ?_)
        replace h:=bndS h; obtain ⟨r0_11,g36,h⟩:=h
        refine lastF (tab_cons (zpv g36) (tab_nil _)) (blockN (seqN ?_))
        exact jumpK [.kill [3,89,90,95,126,131,161,166],.tidy] (zax h)
       ·refine condFP (Wp.seq ?_)
        refine regP (seqN ?_)
        replace h:=ifS h; rcases h with ⟨g37,h⟩ | ⟨g37,h⟩
        ·refine condTP (Wp.reg ?_)
         replace h:=bndS h; obtain ⟨r0_12,g38,h⟩:=h
         refine lastF (tab_cons (zpw g38) (tab_nil _)) (blockN (seqN ?_))
         exact jumpK [.kill [3,89,90,95,126,131,161,166,171],.tidy] (zax h)
        ·refine condFP (Wp.skip (blockN (seqN ?_)))
         exact jumpK [.kill [3,89,90,95,126,131,161,166,171],.cell 6 8 .frz,.tidy] (zax h)
theorem zih{x0:TMsg}{r0_1:Tmember}{v83:Bool}{r:(TRaft × (List TMsg))} (h:zcu x0 r0_1 v83=some r):Wp Pg 180 0 (.cond (.t 83) (.reg none i48_R5) .skip) ⟨[(0,.bad),(1,.bad),(2,.bad),(3,.ptr 0 0),(4,.ptr 1 0),(5,.bad),(6,.ptr 2 0),(56,.bad),(83,.bool v83),(89,.bad),(90,.bad),(95,.bad),(123,.bad),(126,.bad),(131,.bad),(158,.bad),(161,.bad),(166,.bad),(171,.bad)],[],(zsw x0.Kind x0.Group x0.From x0.To x0.Term x0.At x0.AtTerm x0.Commit x0.Ok x0.Entries x0.Data (0:Int) (0:Int) (0:Int) (0:Int) (0:Int) (0:Int) (0:Int) (0:Int) (0:Int) (0:Int) (0:Int) r0_1.Raft.Id r0_1.Raft.N r0_1.Raft.Term r0_1.Raft.Vote r0_1.Raft.Role r0_1.Raft.Lead r0_1.Raft.Log.Base r0_1.Raft.Log.BaseTerm r0_1.Raft.Log.Entries r0_1.Raft.Commit r0_1.Raft.Snap r0_1.Raft.Granted r0_1.Raft.Next r0_1.Raft.Match r0_1.Raft.Clock r0_1.Raft.Wait r0_1.f_out),9⟩ (seqQ Pg 180 0 (.seq (.seq (.reg none i48_R6) (.block 0 (.seq (.reg none i48_R7) (.cond (.t 90) (.reg none i48_R8) (.seq (.reg none i48_R9) (.cond (.t 95) (.seq (.reg (some []) i48_R10) (.cond (.t 123) (.reg none i48_R11) .skip)) (.seq (.reg none i48_R12) (.cond (.t 126) (.reg none i48_R13) (.seq (.reg none i48_R14) (.cond (.t 131) (.seq (.reg (some []) i48_R15) (.cond (.t 158) (.reg none i48_R16) .skip)) (.seq (.reg none i48_R17) (.cond (.t 161) (.reg none i48_R18) (.seq (.reg none i48_R19) (.cond (.t 166) (.reg none i48_R20) (.seq (.reg none i48_R21) (.cond (.t 171) (.reg none i48_R22) .skip)))))))))))))))) (.seq (.reg none i48_R23) .ret)) (qf_48 r)):=by
  unfold zcu at h
  replace h:=ifS h; rcases h with ⟨g13,h⟩ | ⟨g13,h⟩
  ·refine condTP (Wp.reg ?_)
   replace h:=bndS h; obtain ⟨r0_3,g14,h⟩:=h
   refine lastF (tab_cons (zek g14) (tab_nil _)) (seqN ?_)
   exact jumpK [.kill [83],.tidy] (zmk h)
  ·refine condFP (Wp.skip (seqN ?_))
   exact jumpK [.kill [83]] (zmk h)
theorem zcw{x0:TMsg}{r0_1:Tmember}{v56:Bool}{r:(TRaft × (List TMsg))} (h:zbb x0 r0_1 v56=some r):Wp Pg 180 0 (.cond (.t 56) (.seq (.reg none i48_R3) .ret) .skip) ⟨[(0,.bad),(1,.bad),(2,.bad),(3,.ptr 0 0),(4,.ptr 1 0),(5,.bad),(6,.ptr 2 0),(56,.bool v56),(83,.bad),(89,.bad),(90,.bad),(95,.bad),(123,.bad),(126,.bad),(131,.bad),(158,.bad),(161,.bad),(166,.bad),(171,.bad)],[],(zsw x0.Kind x0.Group x0.From x0.To x0.Term x0.At x0.AtTerm x0.Commit x0.Ok x0.Entries x0.Data (0:Int) (0:Int) (0:Int) (0:Int) (0:Int) (0:Int) (0:Int) (0:Int) (0:Int) (0:Int) (0:Int) r0_1.Raft.Id r0_1.Raft.N r0_1.Raft.Term r0_1.Raft.Vote r0_1.Raft.Role r0_1.Raft.Lead r0_1.Raft.Log.Base r0_1.Raft.Log.BaseTerm r0_1.Raft.Log.Entries r0_1.Raft.Commit r0_1.Raft.Snap r0_1.Raft.Granted r0_1.Raft.Next r0_1.Raft.Match r0_1.Raft.Clock r0_1.Raft.Wait r0_1.f_out),9⟩ (seqQ Pg 180 0 (.seq (.seq (.reg (some []) i48_R4) (.cond (.t 83) (.reg none i48_R5) .skip)) (.seq (.seq (.reg none i48_R6) (.block 0 (.seq (.reg none i48_R7) (.cond (.t 90) (.reg none i48_R8) (.seq (.reg none i48_R9) (.cond (.t 95) (.seq (.reg (some []) i48_R10) (.cond (.t 123) (.reg none i48_R11) .skip)) (.seq (.reg none i48_R12) (.cond (.t 126) (.reg none i48_R13) (.seq (.reg none i48_R14) (.cond (.t 131) (.seq (.reg (some []) i48_R15) (.cond (.t 158) (.reg none i48_R16) .skip)) (.seq (.reg none i48_R17) (.cond (.t 161) (.reg none i48_R18) (.seq (.reg none i48_R19) (.cond (.t 166) (.reg none i48_R20) (.seq (.reg none i48_R21) (.cond (.t 171) (.reg none i48_R22) .skip)))))))))))))))) (.seq (.reg none i48_R23) .ret))) (qf_48 r)):=by
  unfold zbb at h
  replace h:=ifS h; rcases h with ⟨g8,h⟩ | ⟨g8,h⟩
  ·refine condTP (Wp.seq (Wp.reg ?_))
   replace h:=bndS h; obtain ⟨r0_2,g9,h⟩:=h
   replace h:=retS h; subst h
   refine chunkF 2 (tab_cons (zof g9) (tab_nil _)) ?_
   refine lastT (tab_nil _) (seqN ?_)
   refine weakP [.cell 4 8 .frz,.cell 4 10 .frz,.cell 4 11 .frz,.cell 4 12 .frz,.cell 4 13 .frz,.at 5 .frz] (Wp.ret (seqR ?_))
   exact finP
  ·refine condFP (Wp.skip (seqN (Wp.seq (Wp.seq ?_))))
   replace h:=ifS h; rcases h with ⟨g10,h⟩ | ⟨g10,h⟩
   ·replace h:=ifS h; rcases h with ⟨g11,h⟩ | ⟨g11,h⟩
    ·replace h:=ifS h; rcases h with ⟨g12,h⟩ | ⟨g12,h⟩
     ·refine drawP [] mixed (clsN _) (seqN ?_)
      exact jumpK [.kill [56],.tidy] (zih h)
     ·refine drawP [] mixed (clsN _) (seqN ?_)
      exact jumpK [.kill [56],.tidy] (zih h)
    ·refine drawP [] mixed (clsN _) (seqN ?_)
     exact jumpK [.kill [56],.tidy] (zih h)
   ·refine drawP [] mixed (clsN _) (seqN ?_)
    exact jumpK [.kill [56],.tidy] (zih h)
theorem zru{r0:TRaft}{x0:TMsg}{r:(TRaft × (List TMsg))} (h:zjh r0 x0=some r):Spec Pg 48 [.agg [.int .i64 r0.Id,.int .i64 r0.N,.int .i64 r0.Term,.int .i64 r0.Vote,.int .i64 r0.Role,.int .i64 r0.Lead,.int .i64 r0.Log.Base,.int .i64 r0.Log.BaseTerm,sl TEntry.c r0.Log.Entries,.int .i64 r0.Commit,sl (ci .u8) r0.Snap,sl cb r0.Granted,sl (ci .i64) r0.Next,sl (ci .i64) r0.Match,.int .i64 r0.Clock,.int .i64 r0.Wait],.agg [.int .i64 x0.Kind,.int .i64 x0.Group,.int .i64 x0.From,.int .i64 x0.To,.int .i64 x0.Term,.int .i64 x0.At,.int .i64 x0.AtTerm,.int .i64 x0.Commit,.bool x0.Ok,sl TEntry.c x0.Entries,sl (ci .u8) x0.Data]] [] 0 (.tup [.agg [.int .i64 r.1.Id,.int .i64 r.1.N,.int .i64 r.1.Term,.int .i64 r.1.Vote,.int .i64 r.1.Role,.int .i64 r.1.Lead,.int .i64 r.1.Log.Base,.int .i64 r.1.Log.BaseTerm,sl TEntry.c r.1.Log.Entries,.int .i64 r.1.Commit,sl (ci .u8) r.1.Snap,sl cb r.1.Granted,sl (ci .i64) r.1.Next,sl (ci .i64) r.1.Match,.int .i64 r.1.Clock,.int .i64 r.1.Wait],sl TMsg.c r.2]) [] 0:=by
  refine Spec.intro Go.Proofs.Try.func48 i48_ok (le_of_ble rfl) ?_
  show Wp Pg 180 0 i48_B ⟨argEnv _ i48_V,[],_,_⟩ (qf_48 r)
  unfold zjh at h
  unfold i48_B
  refine weakP [] ?_
  refine Wp.seq (regP (seqN (Wp.seq (Wp.reg ?_))))
  replace h:=bndS h; obtain ⟨r0_1,g1,h⟩:=h
  refine chunkF 2 (tab_cons (zmp g1) (tab_nil _)) ?_
  refine lastT (tab_nil _) (seqN (Wp.seq (Wp.seq ?_)))
  replace h:=ifS h; rcases h with ⟨g2,h⟩ | ⟨g2,h⟩
  ·refine drawP [] mixed (clsN _) (seqN ?_)
   exact jumpK [.kill [0,1,2,5,83,89,90,95,123,126,131,158,161,166,171],.tidy] (zcw h)
  ·replace h:=ifS h; rcases h with ⟨g3,h⟩ | ⟨g3,h⟩
   ·refine drawP [] mixed (clsN _) (seqN ?_)
    exact jumpK [.kill [0,1,2,5,83,89,90,95,123,126,131,158,161,166,171],.tidy] (zcw h)
   ·replace h:=ifS h; rcases h with ⟨g4,h⟩ | ⟨g4,h⟩
    ·refine drawP [] mixed (clsN _) (seqN ?_)
     exact jumpK [.kill [0,1,2,5,83,89,90,95,123,126,131,158,161,166,171],.tidy] (zcw h)
    ·replace h:=ifS h; rcases h with ⟨g5,h⟩ | ⟨g5,h⟩
     ·refine drawP [] mixed (clsN _) (seqN ?_)
      exact jumpK [.kill [0,1,2,5,83,89,90,95,123,126,131,158,161,166,171],.tidy] (zcw h)
     ·replace h:=ifS h; rcases h with ⟨g6,h⟩ | ⟨g6,h⟩
      ·refine drawP [] mixed (clsN _) (seqN ?_)
       exact jumpK [.kill [0,1,2,5,83,89,90,95,123,126,131,158,161,166,171],.tidy] (zcw h)
      ·replace h:=ifS h; rcases h with ⟨g7,h⟩ | ⟨g7,h⟩
       ·refine drawP [] mixed (clsN _) (seqN ?_)
        exact jumpK [.kill [0,1,2,5,83,89,90,95,123,126,131,158,161,166,171],.tidy] (zcw h)
       ·refine drawP [] mixed (clsN _) (seqN ?_)
        exact jumpK [.kill [0,1,2,5,83,89,90,95,123,126,131,158,161,166,171],.tidy] (zcw h)
noncomputable abbrev qf_20(r:TWorld):Ex→St→Prop:=FinQ 0 [.cell 4 true 2] (.agg [sl TRaft.c r.R,sl TMsg.c r.Net]) [] 0
theorem zmf{r0_4:(TWorld × TMsg)}{v87:Bool}{r:TWorld} (h:zgv r0_4 v87=some r):Wp Pg 177 0 (.cond (.t 87) (.seq (.reg none i20_R14) .ret) .skip) ⟨[(0,.bad),(1,.bad),(2,.bad),(3,.bad),(4,.ptr 0 0),(5,.bad),(6,.bad),(7,.bad),(8,.bad),(9,.ptr 1 0),(10,.ptr 2 0),(11,.bad),(12,.bad),(13,.bad),(15,.bad),(16,.bad),(17,.bad),(18,.bad),(19,.bad),(20,.bad),(21,.bad),(34,.bad),(35,.bad),(49,.bad),(56,.bad),(87,.bool v87),(108,.bad),(120,.bad),(127,.bad),(145,.bad),(151,.bad),(170,.bad)],[],(hp6 r0_4.1.R r0_4.1.Net r0_4.2.Kind r0_4.2.Group r0_4.2.From r0_4.2.To r0_4.2.Term r0_4.2.At r0_4.2.AtTerm r0_4.2.Commit r0_4.2.Ok r0_4.2.Entries r0_4.2.Data),3⟩ (seqQ Pg 177 0 (.seq (.reg (some [(1,12),(3,12),(6,12),(7,12),(8,12)]) i20_R15) (.seq (.reg none i20_R16) .ret)) (blockQ 0 (seqQ Pg 177 0 (.seq (.reg none i20_R33) .ret) (qf_20 r)))):=by
  unfold zgv at h
  replace h:=ifS h; rcases h with ⟨g14,h⟩ | ⟨g14,h⟩
  ·replace h:=retS h; subst h
   refine condTP (Wp.seq ?_)
   refine regP (seqN (Wp.ret (seqR (blockR (seqR ?_)))))
   exact finP
  ·refine condFP (Wp.skip (seqN (Wp.seq ?_)))
   replace h:=bndS h; obtain ⟨e_1,g15,h⟩:=h
   replace h:=bndS h; obtain ⟨r0_5,g16,h⟩:=h
   refine drawP [] mixed (clsC 8 (tab_cons (zru g16) (tab_nil _)) (clsN _)) (seqN (Wp.seq (Wp.reg ?_)))
   replace h:=bndS h; obtain ⟨r0_6,g17,h⟩:=h
   replace h:=retS h; subst h
   refine chunkT 7 (tab_cons (zjy g17) (tab_nil _)) ?_
   refine lastT (tab_nil _) (seqN (Wp.ret (blockR (seqR ?_))))
   exact finP
theorem zmg{w:TWorld}{o:TOp}{r0:Int}{e:TRaft}{v49:Bool}{r:TWorld} (h:zdm w o r0 e v49=some r):Wp Pg 177 0 (.cond (.t 49) (.seq (.seq (.reg none i20_R10) (.cond (.t 56) (.seq (.reg none i20_R11) .ret) .skip)) (.seq (.reg (some [(0,6),(6,8),(0,14),(2,14),(4,14),(6,14),(8,14),(10,14),(0,15),(2,15),(4,15),(6,15),(8,15),(10,15),(14,15)]) i20_R12) (.seq (.seq (.reg none i20_R13) (.cond (.t 87) (.seq (.reg none i20_R14) .ret) .skip)) (.seq (.reg (some [(1,12),(3,12),(6,12),(7,12),(8,12)]) i20_R15) (.seq (.reg none i20_R16) .ret))))) (.seq (.reg none i20_R17) (.cond (.t 108) (.seq (.reg none i20_R18) (.seq (.seq (.reg none i20_R19) (.cond (.t 120) (.seq (.reg none i20_R20) .ret) .skip)) (.seq (.reg none i20_R21) .ret))) (.seq (.reg none i20_R22) (.cond (.t 127) (.seq (.reg (some [(1,4)]) i20_R23) (.seq (.reg none i20_R24) (.seq (.seq (.reg none i20_R25) (.cond (.t 145) (.seq (.reg none i20_R26) .ret) .skip)) (.seq (.reg none i20_R27) .ret)))) (.seq (.reg none i20_R28) (.cond (.t 151) (.seq (.reg none i20_R29) (.seq (.seq (.reg none i20_R30) (.cond (.t 170) (.seq (.reg none i20_R31) .ret) .skip)) (.seq (.reg none i20_R32) .ret))) .skip))))))) ⟨[(0,.bad),(1,.bad),(2,.ptr 0 0),(3,.ptr 1 0),(4,.ptr 2 0),(5,.int .i64 r0),(6,.ptr 3 0),(7,.bad),(8,.bad),(9,.bad),(10,.bad),(11,.bad),(12,.bad),(13,.bad),(15,.bad),(16,.bad),(17,.bad),(18,.bad),(19,.bad),(20,.bad),(21,.bad),(34,.int .i64 o.Kind),(35,.bad),(49,.bool v49),(56,.bad),(87,.bad),(108,.bad),(120,.bad),(127,.bad),(145,.bad),(151,.bad),(170,.bad)],[],(hp4 w.R w.Net o.Kind o.Who o.N o.Data e.Id e.N e.Term e.Vote e.Role e.Lead e.Log.Base e.Log.BaseTerm e.Log.Entries e.Commit e.Snap e.Granted e.Next e.Match e.Clock e.Wait),4⟩ (blockQ 0 (seqQ Pg 177 0 (.seq (.reg none i20_R33) .ret) (qf_20 r))):=by
  unfold zdm at h
  replace h:=ifS h; rcases h with ⟨g8,h⟩ | ⟨g8,h⟩
  ·refine condTP (Wp.seq (Wp.seq ?_))
   refine regP (seqN ?_)
   replace h:=ifS h; rcases h with ⟨g9,h⟩ | ⟨g9,h⟩
   ·replace h:=retS h; subst h
    refine condTP (Wp.seq ?_)
    refine regP (seqN (Wp.ret (seqR (blockR (seqR ?_)))))
    exact finP
   ·refine condFP (Wp.skip (seqN (Wp.seq ?_)))
    replace h:=bndS h; obtain ⟨r0_3,g10,h⟩:=h
    replace h:=bndS h; obtain ⟨r0_4,g11,h⟩:=h
    refine drawP [] mixed (clsC 6 (tab_cons (zmn g10) (tab_nil _)) (clsC 10 (tab_cons (zss g11) (tab_nil _)) (clsN _))) (seqN (Wp.seq (Wp.seq ?_)))
    replace h:=ifS h; rcases h with ⟨g12,h⟩ | ⟨g12,h⟩
    ·refine regP (seqN ?_)
     exact jumpK [.kill [2,3,5,6,34,49,56],.tidy] (zmf h)
    ·replace h:=ifS h; rcases h with ⟨g13,h⟩ | ⟨g13,h⟩
     ·refine regP (seqN ?_)
      exact jumpK [.kill [2,3,5,6,34,49,56],.tidy] (zmf h)
     ·refine regP (seqN ?_)
      exact jumpK [.kill [2,3,5,6,34,49,56],.tidy] (zmf h)
  ·refine condFP (Wp.seq ?_)
   refine regP (seqN ?_)
   replace h:=ifS h; rcases h with ⟨g18,h⟩ | ⟨g18,h⟩
   ·refine condTP (Wp.seq (Wp.reg ?_))
    replace h:=bndS h; obtain ⟨r0_7,g19,h⟩:=h
    refine chunkT 4 (tab_cons (zrs g19) (tab_nil _)) ?_
    refine lastT (tab_nil _) (seqN (Wp.seq (Wp.seq ?_)))
    refine regP (seqN ?_)
    replace h:=ifS h; rcases h with ⟨g20,h⟩ | ⟨g20,h⟩
    ·replace h:=retS h; subst h
     refine condTP (Wp.seq ?_)
     refine regP (seqN (Wp.ret (seqR (blockR (seqR ?_)))))
     exact finP
    ·refine condFP (Wp.skip (seqN (Wp.seq (Wp.reg ?_))))
     replace h:=bndS h; obtain ⟨r0_8,g21,h⟩:=h
     replace h:=retS h; subst h
     refine chunkT 5 (tab_cons (zjy g21) (tab_nil _)) ?_
     refine lastT (tab_nil _) (seqN (Wp.ret (blockR (seqR ?_))))
     exact finP
   ·refine condFP (Wp.seq ?_)
    refine regP (seqN ?_)
    replace h:=ifS h; rcases h with ⟨g22,h⟩ | ⟨g22,h⟩
    ·refine condTP (Wp.seq ?_)
     replace h:=bndS h; obtain ⟨r0_9,g23,h⟩:=h
     refine drawP [] mixed (clsC 4 (tab_cons (zmn g23) (tab_nil _)) (clsN _)) (seqN (Wp.seq (Wp.reg ?_)))
     replace h:=bndS h; obtain ⟨r0_10,g24,h⟩:=h
     refine chunkT 6 (tab_cons (zrt g24) (tab_nil _)) ?_
     refine lastT (tab_nil _) (seqN (Wp.seq (Wp.seq ?_)))
     refine regP (seqN ?_)
     replace h:=ifS h; rcases h with ⟨g25,h⟩ | ⟨g25,h⟩
     ·replace h:=retS h; subst h
      refine condTP (Wp.seq ?_)
      refine regP (seqN (Wp.ret (seqR (blockR (seqR ?_)))))
      exact finP
     ·refine condFP (Wp.skip (seqN (Wp.seq (Wp.reg ?_))))
      replace h:=bndS h; obtain ⟨r0_11,g26,h⟩:=h
      replace h:=retS h; subst h
      refine chunkT 4 (tab_cons (zjy g26) (tab_nil _)) ?_
      refine lastT (tab_nil _) (seqN (Wp.ret (blockR (seqR ?_))))
      exact finP
    ·refine condFP (Wp.seq ?_)
     refine regP (seqN ?_)
     replace h:=ifS h; rcases h with ⟨g27,h⟩ | ⟨g27,h⟩
     ·refine condTP (Wp.seq (Wp.reg ?_))
      replace h:=bndS h; obtain ⟨r0_12,g28,h⟩:=h
      refine chunkT 13 (tab_cons (zrr g28) (tab_nil _)) ?_
      refine lastT (tab_nil _) (seqN (Wp.seq (Wp.seq ?_)))
      refine regP (seqN ?_)
      replace h:=ifS h; rcases h with ⟨g29,h⟩ | ⟨g29,h⟩
      ·replace h:=retS h; subst h
       refine condTP (Wp.seq ?_)
       refine regP (seqN (Wp.ret (seqR (blockR (seqR ?_)))))
       exact finP
      ·refine condFP (Wp.skip (seqN (Wp.seq (Wp.reg ?_))))
       replace h:=bndS h; obtain ⟨r0_13,g30,h⟩:=h
       replace h:=retS h; subst h
       refine chunkT 4 (tab_cons (zjy g30) (tab_nil _)) ?_
       refine lastT (tab_nil _) (seqN (Wp.ret (blockR (seqR ?_))))
       exact finP
     ·replace h:=retS h; subst h
      refine condFP (Wp.skip (blockN (seqN (Wp.seq ?_))))
      refine regP (seqN (Wp.ret ?_))
      exact finP
theorem zsy{w:TWorld}{o:TOp}{r:TWorld} (h:zkw w o=some r):Spec Pg 20 [.agg [sl TRaft.c w.R,sl TMsg.c w.Net],.agg [.int .i64 o.Kind,.int .i64 o.Who,.int .i64 o.N,sl (ci .u8) o.Data]] [] 0 (.agg [sl TRaft.c r.R,sl TMsg.c r.Net]) [] 0:=by
  refine Spec.intro Go.Proofs.Try.func20 i20_ok (le_of_ble rfl) ?_
  show Wp Pg 177 0 i20_B ⟨argEnv _ i20_V,[],_,_⟩ (qf_20 r)
  unfold zkw at h
  unfold i20_B
  refine weakP [] ?_
  refine Wp.seq (regP (seqN (Wp.seq (Wp.reg ?_))))
  replace h:=bndS h; obtain ⟨r0,g1,h⟩:=h
  refine chunkT 6 (tab_cons (zmn g1) (tab_nil _)) ?_
  refine lastT (tab_nil _) (seqN (Wp.seq ?_))
  replace h:=bndS h; obtain ⟨e,g2,h⟩:=h
  refine regP (seqN (Wp.seq (Wp.seq ?_)))
  refine regP (seqN (Wp.block (Wp.seq ?_)))
  refine regP (seqN ?_)
  replace h:=ifS h; rcases h with ⟨g3,h⟩ | ⟨g3,h⟩
  ·refine condTP (Wp.seq (Wp.reg ?_))
   replace h:=bndS h; obtain ⟨r0_1,g4,h⟩:=h
   refine chunkT 4 (tab_cons (zsv g4) (tab_nil _)) ?_
   refine lastT (tab_nil _) (seqN (Wp.seq (Wp.reg ?_)))
   replace h:=bndS h; obtain ⟨r0_2,g5,h⟩:=h
   replace h:=retS h; subst h
   refine chunkT 5 (tab_cons (zjy g5) (tab_nil _)) ?_
   refine lastT (tab_nil _) (seqN (Wp.ret (blockR (seqR ?_))))
   exact finP
  ·refine condFP (Wp.seq (Wp.seq ?_))
   refine regP (seqN ?_)
   replace h:=ifS h; rcases h with ⟨g6,h⟩ | ⟨g6,h⟩
   ·refine condTP (Wp.skip (seqN ?_))
    exact jumpK [.kill [0,1,7,8,9,10,11,12,13,15,16,17,18,19,20,21,35,56,87,108,120,127,145,151,170],.tidy] (zmg h)
   ·refine condFP (Wp.seq ?_)
    refine regP (seqN ?_)
    replace h:=ifS h; rcases h with ⟨g7,h⟩ | ⟨g7,h⟩
    ·refine condTP (Wp.skip (seqN ?_))
     exact jumpK [.kill [0,1,7,8,9,10,11,12,13,15,16,17,18,19,20,21,35,56,87,108,120,127,145,151,170],.tidy] (zmg h)
    ·refine condFP ?_
     refine regP (seqN ?_)
     exact jumpK [.kill [0,1,7,8,9,10,11,12,13,15,16,17,18,19,20,21,35,56,87,108,120,127,145,151,170],.tidy] (zmg h)
noncomputable abbrev qf_21(r:Int):Ex→St→Prop:=FinQ 0 [.tmp 2] (.int .i64 r) [] 0
noncomputable abbrev zkt(l:TLog)(rec0:Int→Option Int)(r:Int):Prop:=∀ {i:Int},rec0 i=some r→LWp Pg 85 0 i21_L0 ⟨[(0,.bad),(1,.ptr 0 0),(2,.bad),(3,.int .i64 (1099511627776:Int)),(4,.int .i64 i),(5,.bad),(25,.bad),(43,.bad),(48,.bad),(84,.bad)],[],[(0,.box [.int .i64 l.Base,.int .i64 l.BaseTerm,sl TEntry.c l.Entries])],1⟩ (blockQ 0 (seqQ Pg 85 0 (.seq (.reg none i21_R12) .ret) (qf_21 r)))
theorem zgm{l:TLog}{i:Int}{v84:Bool}{r:Int}{zy:Int→Option Int}(zca:zkt l zy r)(h:zcl zy i v84=some r):Wp Pg 85 0 (.cond (.t 84) (.seq (.reg none i21_R10) .ret) .skip) ⟨[(0,.bad),(1,.ptr 0 0),(2,.bad),(3,.int .i64 (1099511627776:Int)),(4,.int .i64 i),(5,.bad),(25,.bad),(43,.bad),(48,.bad),(84,.bool v84)],[],[(0,.box [.int .i64 l.Base,.int .i64 l.BaseTerm,sl TEntry.c l.Entries])],1⟩ (blockQ 1 (seqQ Pg 85 0 (.reg none i21_R11) (loopQ Pg 85 0 i21_L0 (blockQ 0 (seqQ Pg 85 0 (.seq (.reg none i21_R12) .ret) (qf_21 r)))))):=by
  unfold zcl at h
  replace h:=ifS h; rcases h with ⟨g17,h⟩ | ⟨g17,h⟩
  ·replace h:=retS h; subst h
   refine condTP (Wp.seq ?_)
   refine regP (seqN (Wp.ret (blockR (seqR (loopR (blockR (seqR ?_)))))))
   exact finP
  ·refine condFP (Wp.skip (blockN (seqN ?_)))
   refine regP (loopN ?_)
   exact jumpL [.kill [84]] (zca h)
theorem zpz{l:TLog}{r:Int} {zy:Int→Option Int}(zca:zkt l zy r){i:Int}(h:zgj l zy i=some r):LWp Pg 85 0 i21_L0 ⟨[(0,.bad),(1,.ptr 0 0),(2,.bad),(3,.int .i64 (1099511627776:Int)),(4,.int .i64 i),(5,.bad),(25,.bad),(43,.bad),(48,.bad),(84,.bad)],[],[(0,.box [.int .i64 l.Base,.int .i64 l.BaseTerm,sl TEntry.c l.Entries])],1⟩ (blockQ 0 (seqQ Pg 85 0 (.seq (.reg none i21_R12) .ret) (qf_21 r))):=by
  unfold zgj at h
  refine LWp.stepC i21_L0.eq_1 ?_
  refine Wp.seq (Wp.seq (regP (seqN ?_)))
  replace h:=ifS h; rcases h with ⟨g10,h⟩ | ⟨g10,h⟩
  ·refine condTP (Wp.skip (seqN (Wp.seq (Wp.block (Wp.seq ?_)))))
   replace h:=bndS h; obtain ⟨e,g11,h⟩:=h
   refine regP (seqN (Wp.seq ?_))
   replace h:=ifS h; rcases h with ⟨g12,h⟩ | ⟨g12,h⟩
   ·refine regP (seqN ?_)
    exact jumpK [.kill [5,48]] (zgm (l:=l) zca h)
   ·replace h:=ifS h; rcases h with ⟨g13,h⟩ | ⟨g13,h⟩
    ·refine regP (seqN ?_)
     exact jumpK [.kill [5,48]] (zgm (l:=l) zca h)
    ·replace h:=ifS h; rcases h with ⟨g14,h⟩ | ⟨g14,h⟩
     ·refine regP (seqN ?_)
      exact jumpK [.kill [5,48]] (zgm (l:=l) zca h)
     ·replace h:=ifS h; rcases h with ⟨g15,h⟩ | ⟨g15,h⟩
      ·replace h:=bndS h; obtain ⟨e_1,g16,h⟩:=h
       refine regP (seqN ?_)
       exact jumpK [.kill [5,48]] (zgm (l:=l) zca h)
      ·refine regP (seqN ?_)
       exact jumpK [.kill [5,48]] (zgm (l:=l) zca h)
  ·replace h:=retS h; subst h
   refine condFP (Wp.out (seqO (loopO (blockO (seqN (Wp.seq ?_))))))
   refine regP (seqN (Wp.ret ?_))
   exact finP
theorem zqy{l:TLog}{r:Int}:∀ (n:Nat),zkt l (zcm l n) r:=by
  intro n
  induction n with
  | zero=>intro i h; unfold zcm at h; cases h
  | succ n ih=>intro i h; unfold zcm at h; exact zpz ih h
theorem zgn{l:TLog}{v43:Bool}{r:Int} (h:zcn l v43=some r):Wp Pg 85 0 (.cond (.t 43) (.seq (.reg none i21_R5) .ret) .skip) ⟨[(0,.bad),(1,.ptr 0 0),(2,.bad),(3,.int .i64 (1099511627776:Int)),(4,.bad),(5,.bad),(25,.bad),(43,.bool v43),(48,.bad),(84,.bad)],[],[(0,.box [.int .i64 l.Base,.int .i64 l.BaseTerm,sl TEntry.c l.Entries])],1⟩ (seqQ Pg 85 0 (.seq (.seq (.reg none i21_R6) (.block 0 (.loop i21_L0))) (.seq (.reg none i21_R12) .ret)) (qf_21 r)):=by
  unfold zcn at h
  replace h:=ifS h; rcases h with ⟨g9,h⟩ | ⟨g9,h⟩
  ·replace h:=retS h; subst h
   refine condTP (Wp.seq ?_)
   refine regP (seqN (Wp.ret (seqR ?_)))
   exact finP
  ·refine condFP (Wp.skip (seqN (Wp.seq (Wp.seq ?_))))
   refine regP (seqN (Wp.block (Wp.loop ?_)))
   exact jumpL [.kill [43]] (zqy _ h)
theorem zis{l:TLog}{v25:Bool}{r:Int} (h:zen l v25=some r):Wp Pg 85 0 (.cond (.t 25) (.seq (.reg none i21_R3) .ret) .skip) ⟨[(0,.bad),(1,.ptr 0 0),(2,.bad),(3,.int .i64 (1099511627776:Int)),(4,.bad),(5,.bad),(25,.bool v25),(43,.bad),(48,.bad),(84,.bad)],[],[(0,.box [.int .i64 l.Base,.int .i64 l.BaseTerm,sl TEntry.c l.Entries])],1⟩ (seqQ Pg 85 0 (.seq (.seq (.reg none i21_R4) (.cond (.t 43) (.seq (.reg none i21_R5) .ret) .skip)) (.seq (.seq (.reg none i21_R6) (.block 0 (.loop i21_L0))) (.seq (.reg none i21_R12) .ret))) (qf_21 r)):=by
  unfold zen at h
  replace h:=ifS h; rcases h with ⟨g4,h⟩ | ⟨g4,h⟩
  ·replace h:=retS h; subst h
   refine condTP (Wp.seq ?_)
   refine regP (seqN (Wp.ret (seqR ?_)))
   exact finP
  ·refine condFP (Wp.skip (seqN (Wp.seq (Wp.seq ?_))))
   replace h:=ifS h; rcases h with ⟨g5,h⟩ | ⟨g5,h⟩
   ·replace h:=ifS h; rcases h with ⟨g6,h⟩ | ⟨g6,h⟩
    ·refine regP (seqN ?_)
     exact jumpK [.kill [25]] (zgn h)
    ·replace h:=ifS h; rcases h with ⟨g7,h⟩ | ⟨g7,h⟩
     ·refine regP (seqN ?_)
      exact jumpK [.kill [25]] (zgn h)
     ·refine regP (seqN ?_)
      exact jumpK [.kill [25]] (zgn h)
   ·replace h:=ifS h; rcases h with ⟨g8,h⟩ | ⟨g8,h⟩
    ·refine regP (seqN ?_)
     exact jumpK [.kill [25]] (zgn h)
    ·refine regP (seqN ?_)
     exact jumpK [.kill [25]] (zgn h)
theorem zsn{l:TLog}{r:Int} (h:zjt l=some r):Spec Pg 21 [.agg [.int .i64 l.Base,.int .i64 l.BaseTerm,sl TEntry.c l.Entries]] [] 0 (.int .i64 r) [] 0:=by
  refine Spec.intro Go.Proofs.Try.func21 i21_ok (le_of_ble rfl) ?_
  show Wp Pg 85 0 i21_B ⟨argEnv _ i21_V,[],_,_⟩ (qf_21 r)
  unfold zjt at h
  unfold i21_B
  refine weakP [] ?_
  refine Wp.seq (regP (seqN (Wp.seq ?_)))
  refine regP (seqN (Wp.seq (Wp.seq ?_)))
  replace h:=ifS h; rcases h with ⟨g1,h⟩ | ⟨g1,h⟩
  ·refine regP (seqN ?_)
   exact jumpK [.kill [0,2,4,5,43,48,84]] (zis h)
  ·replace h:=ifS h; rcases h with ⟨g2,h⟩ | ⟨g2,h⟩
   ·refine regP (seqN ?_)
    exact jumpK [.kill [0,2,4,5,43,48,84]] (zis h)
   ·replace h:=ifS h; rcases h with ⟨g3,h⟩ | ⟨g3,h⟩
    ·refine regP (seqN ?_)
     exact jumpK [.kill [0,2,4,5,43,48,84]] (zis h)
    ·refine regP (seqN ?_)
     exact jumpK [.kill [0,2,4,5,43,48,84]] (zis h)
noncomputable abbrev qf_25(r:Int):Ex→St→Prop:=FinQ 0 [.tmp 2] (.int .i64 r) [] 0
theorem zkz{l:TLog}{r:Int} (h:zhw l=some r):Spec Pg 25 [.agg [.int .i64 l.Base,.int .i64 l.BaseTerm,sl TEntry.c l.Entries]] [] 0 (.int .i64 r) [] 0:=by
  refine Spec.intro Go.Proofs.Try.func25 i25_ok (le_of_ble rfl) ?_
  show Wp Pg 9 0 i25_B ⟨argEnv _ i25_V,[],_,_⟩ (qf_25 r)
  unfold zhw at h
  unfold i25_B
  refine weakP [] ?_
  replace h:=retS h; subst h
  refine Wp.seq (regP (seqN (Wp.seq ?_)))
  refine regP (seqN (Wp.ret ?_))
  exact finP
noncomputable abbrev qf_24(r:(TEntry × Bool)):Ex→St→Prop:=FinQ 0 [.cell 4 true 2,.tmp 5] (.tup [.agg [.int .i64 r.1.Term,sl (ci .u8) r.1.Data],.bool r.2]) [] 0
theorem zmx{l:TLog}{at0:Int}{v15:Bool}{r:(TEntry × Bool)} (h:zhx l at0 v15=some r):Wp Pg 26 0 (.cond (.t 15) (.seq (.reg none i24_R2) .ret) .skip) ⟨[(0,.bad),(1,.int .i64 at0),(2,.ptr 0 0),(4,.ptr 1 0),(5,.bad),(15,.bool v15)],[],[(0,.box [.int .i64 l.Base,.int .i64 l.BaseTerm,sl TEntry.c l.Entries]),(1,.box [.int .i64 (0:Int),.nil])],2⟩ (seqQ Pg 26 0 (.seq (.reg none i24_R3) .ret) (qf_24 r)):=by
  unfold zhx at h
  replace h:=ifS h; rcases h with ⟨g3,h⟩ | ⟨g3,h⟩
  ·replace h:=retS h; subst h
   refine condTP (Wp.seq ?_)
   refine regP (seqN ?_)
   refine weakP [.cell 4 1 .frz] (Wp.ret (seqR ?_))
   exact finP
  ·refine condFP (Wp.skip (seqN (Wp.seq ?_)))
   replace h:=bndS h; obtain ⟨e,g4,h⟩:=h
   replace h:=retS h; subst h
   refine regP (seqN (Wp.ret ?_))
   exact finP
theorem zor{l:TLog}{at0:Int}{r:(TEntry × Bool)} (h:zin l at0=some r):Spec Pg 24 [.agg [.int .i64 l.Base,.int .i64 l.BaseTerm,sl TEntry.c l.Entries],.int .i64 at0] [] 0 (.tup [.agg [.int .i64 r.1.Term,sl (ci .u8) r.1.Data],.bool r.2]) [] 0:=by
  refine Spec.intro Go.Proofs.Try.func24 i24_ok (le_of_ble rfl) ?_
  show Wp Pg 26 0 i24_B ⟨argEnv _ i24_V,[],_,_⟩ (qf_24 r)
  unfold zin at h
  unfold i24_B
  refine weakP [] ?_
  refine Wp.seq (regP (seqN (Wp.seq (Wp.seq (Wp.reg ?_)))))
  replace h:=ifS h; rcases h with ⟨g1,h⟩ | ⟨g1,h⟩
  ·refine lastT (tab_nil _) (seqN ?_)
   exact jumpK [.kill [0,5],.tidy] (zmx h)
  ·replace h:=bndS h; obtain ⟨r0,g2,h⟩:=h
   refine chunkT 8 (tab_cons (zkz g2) (tab_nil _)) ?_
   refine lastT (tab_nil _) (seqN ?_)
   exact jumpK [.kill [0,5],.tidy] (zmx h)
noncomputable abbrev qf_22(r:Bool):Ex→St→Prop:=FinQ 0 [.tmp 4] (.bool r) [] 0
noncomputable abbrev zez(a b:TLog)(rec0:Bool→Int→Option Bool)(r:Bool):Prop:=∀ {met:Bool} {at0:Int},rec0 met at0=some r→LWp Pg 76 0 i22_L0 ⟨[(0,.bad),(1,.bad),(2,.ptr 0 0),(3,.ptr 1 0),(4,.bad),(5,.bad),(6,.bool met),(7,.int .i64 at0),(8,.bad),(9,.bad),(10,.bad),(11,.bad),(17,.bad),(30,.bad),(50,.bad),(75,.bad)],[],[(0,.box [.int .i64 a.Base,.int .i64 a.BaseTerm,sl TEntry.c a.Entries]),(1,.box [.int .i64 b.Base,.int .i64 b.BaseTerm,sl TEntry.c b.Entries])],2⟩ (blockQ 0 (seqQ Pg 76 0 (.seq (.reg none i22_R15) .ret) (qf_22 r)))
theorem zku{a b:TLog}{at0:Int}{met_2 v75:Bool}{r:Bool}{zc:Bool→Int→Option Bool}(zp:zez a b zc r)(h:zga zc at0 met_2 v75=some r):Wp Pg 76 0 (.cond (.t 75) (.seq (.reg none i22_R13) .ret) .skip) ⟨[(0,.bad),(1,.bad),(2,.ptr 0 0),(3,.ptr 1 0),(4,.bad),(5,.bad),(6,.bool met_2),(7,.int .i64 at0),(8,.bad),(9,.bad),(10,.bad),(11,.bad),(17,.bad),(30,.bad),(50,.bad),(75,.bool v75)],[],[(0,.box [.int .i64 a.Base,.int .i64 a.BaseTerm,sl TEntry.c a.Entries]),(1,.box [.int .i64 b.Base,.int .i64 b.BaseTerm,sl TEntry.c b.Entries])],2⟩ (blockQ 1 (seqQ Pg 76 0 (.reg none i22_R14) (loopQ Pg 76 0 i22_L0 (blockQ 0 (seqQ Pg 76 0 (.seq (.reg none i22_R15) .ret) (qf_22 r)))))):=by
  unfold zga at h
  replace h:=ifS h; rcases h with ⟨g13,h⟩ | ⟨g13,h⟩
  ·replace h:=retS h; subst h
   refine condTP (Wp.seq ?_)
   refine regP (seqN (Wp.ret (blockR (seqR (loopR (blockR (seqR ?_)))))))
   exact finP
  ·refine condFP (Wp.skip (blockN (seqN ?_)))
   refine regP (loopN ?_)
   exact jumpL [.kill [75]] (zp h)
theorem zmy{a b:TLog}{at0:Int}{r0_2 r0_3:(TEntry × Bool)}{met_1:Bool}{r:Bool}{zc:Bool→Int→Option Bool}(zp:zez a b zc r)(h:zgb zc at0 r0_2 r0_3 met_1=some r):Wp Pg 76 0 (.seq (.reg none i22_R12) (.cond (.t 75) (.seq (.reg none i22_R13) .ret) .skip)) ⟨[(0,.bad),(1,.bad),(2,.ptr 0 0),(3,.ptr 1 0),(4,.bad),(5,.bad),(6,.bool met_1),(7,.int .i64 at0),(8,.ptr 2 0),(9,.bad),(10,.ptr 3 0),(11,.bad),(17,.bad),(30,.bad),(50,.bad),(75,.bad)],[],[(0,.box [.int .i64 a.Base,.int .i64 a.BaseTerm,sl TEntry.c a.Entries]),(1,.box [.int .i64 b.Base,.int .i64 b.BaseTerm,sl TEntry.c b.Entries]),(2,.box [.int .i64 r0_2.1.Term,sl (ci .u8) r0_2.1.Data]),(3,.box [.int .i64 r0_3.1.Term,sl (ci .u8) r0_3.1.Data])],4⟩ (blockQ 1 (seqQ Pg 76 0 (.reg none i22_R14) (loopQ Pg 76 0 i22_L0 (blockQ 0 (seqQ Pg 76 0 (.seq (.reg none i22_R15) .ret) (qf_22 r)))))):=by
  unfold zgb at h
  refine Wp.seq ?_
  replace h:=ifS h; rcases h with ⟨g11,h⟩ | ⟨g11,h⟩
  ·replace h:=ifS h; rcases h with ⟨g12,h⟩ | ⟨g12,h⟩
   ·refine regP (seqN ?_)
    exact jumpK [.kill [8,10],.tidy] (zku (a:=a) (b:=b) zp h)
   ·refine regP (seqN ?_)
    exact jumpK [.kill [8,10],.tidy] (zku (a:=a) (b:=b) zp h)
  ·refine regP (seqN ?_)
   exact jumpK [.kill [8,10],.tidy] (zku (a:=a) (b:=b) zp h)
theorem zmz{a b:TLog}{met:Bool}{at0:Int}{r0_2 r0_3:(TEntry × Bool)}{v50:Bool}{r:Bool}{zc:Bool→Int→Option Bool}(zp:zez a b zc r)(h:zhy zc met at0 r0_2 r0_3 v50=some r):Wp Pg 76 0 (.cond (.t 50) (.seq (.reg none i22_R10) .ret) .skip) ⟨[(0,.bad),(1,.bad),(2,.ptr 0 0),(3,.ptr 1 0),(4,.bad),(5,.bad),(6,.bool met),(7,.int .i64 at0),(8,.ptr 2 0),(9,.bad),(10,.ptr 3 0),(11,.bad),(17,.bad),(30,.bad),(50,.bool v50),(75,.bad)],[],[(0,.box [.int .i64 a.Base,.int .i64 a.BaseTerm,sl TEntry.c a.Entries]),(1,.box [.int .i64 b.Base,.int .i64 b.BaseTerm,sl TEntry.c b.Entries]),(2,.box [.int .i64 r0_2.1.Term,sl (ci .u8) r0_2.1.Data]),(3,.box [.int .i64 r0_3.1.Term,sl (ci .u8) r0_3.1.Data])],4⟩ (seqQ Pg 76 0 (.seq (.reg none i22_R11) (.seq (.reg none i22_R12) (.cond (.t 75) (.seq (.reg none i22_R13) .ret) .skip))) (blockQ 1 (seqQ Pg 76 0 (.reg none i22_R14) (loopQ Pg 76 0 i22_L0 (blockQ 0 (seqQ Pg 76 0 (.seq (.reg none i22_R15) .ret) (qf_22 r))))))):=by
  unfold zhy at h
  replace h:=ifS h; rcases h with ⟨g9,h⟩ | ⟨g9,h⟩
  ·replace h:=retS h; subst h
   refine condTP (Wp.seq ?_)
   refine regP (seqN (Wp.ret (seqR (blockR (seqR (loopR (blockR (seqR ?_))))))))
   exact finP
  ·refine condFP (Wp.skip (seqN (Wp.seq ?_)))
   replace h:=ifS h; rcases h with ⟨g10,h⟩ | ⟨g10,h⟩
   ·refine regP (seqN ?_)
    exact jumpK [.kill [50]] (zmy (a:=a) (b:=b) zp h)
   ·refine regP (seqN ?_)
    exact jumpK [.kill [50]] (zmy (a:=a) (b:=b) zp h)
theorem zna{a b:TLog}{met:Bool}{at0:Int}{v30:Bool}{r:Bool}{zc:Bool→Int→Option Bool}(zp:zez a b zc r)(h:zeo zc a b met at0 v30=some r):Wp Pg 76 0 (.cond (.t 30) .skip (.out 0)) ⟨[(0,.bad),(1,.bad),(2,.ptr 0 0),(3,.ptr 1 0),(4,.bad),(5,.bad),(6,.bool met),(7,.int .i64 at0),(8,.bad),(9,.bad),(10,.bad),(11,.bad),(17,.bad),(30,.bool v30),(50,.bad),(75,.bad)],[],[(0,.box [.int .i64 a.Base,.int .i64 a.BaseTerm,sl TEntry.c a.Entries]),(1,.box [.int .i64 b.Base,.int .i64 b.BaseTerm,sl TEntry.c b.Entries])],2⟩ (seqQ Pg 76 0 (.seq (.block 1 (.seq (.reg none i22_R7) (.seq (.reg none i22_R8) (.seq (.seq (.reg none i22_R9) (.cond (.t 50) (.seq (.reg none i22_R10) .ret) .skip)) (.seq (.reg none i22_R11) (.seq (.reg none i22_R12) (.cond (.t 75) (.seq (.reg none i22_R13) .ret) .skip))))))) (.reg none i22_R14)) (loopQ Pg 76 0 i22_L0 (blockQ 0 (seqQ Pg 76 0 (.seq (.reg none i22_R15) .ret) (qf_22 r))))):=by
  unfold zeo at h
  replace h:=ifS h; rcases h with ⟨g5,h⟩ | ⟨g5,h⟩
  ·refine condTP (Wp.skip (seqN (Wp.seq (Wp.block (Wp.seq (Wp.reg ?_))))))
   replace h:=bndS h; obtain ⟨r0_2,g6,h⟩:=h
   refine chunkT 3 (tab_cons (zor g6) (tab_nil _)) ?_
   refine lastT (tab_nil _) (seqN (Wp.seq (Wp.reg ?_)))
   replace h:=bndS h; obtain ⟨r0_3,g7,h⟩:=h
   refine chunkT 3 (tab_cons (zor g7) (tab_nil _)) ?_
   refine lastT (tab_nil _) (seqN (Wp.seq (Wp.seq ?_)))
   replace h:=ifS h; rcases h with ⟨g8,h⟩ | ⟨g8,h⟩
   ·refine regP (seqN ?_)
    exact jumpK [.kill [9,11,30],.tidy] (zmz (a:=a) (b:=b) zp h)
   ·refine regP (seqN ?_)
    exact jumpK [.kill [9,11,30],.tidy] (zmz (a:=a) (b:=b) zp h)
  ·replace h:=retS h; subst h
   refine condFP (Wp.out (seqO (loopO (blockO (seqN (Wp.seq ?_))))))
   refine regP (seqN (Wp.ret ?_))
   exact finP
theorem zqa{a b:TLog}{r:Bool} {zc:Bool→Int→Option Bool}(zp:zez a b zc r){met:Bool}{at0:Int}(h:zgk a b zc met at0=some r):LWp Pg 76 0 i22_L0 ⟨[(0,.bad),(1,.bad),(2,.ptr 0 0),(3,.ptr 1 0),(4,.bad),(5,.bad),(6,.bool met),(7,.int .i64 at0),(8,.bad),(9,.bad),(10,.bad),(11,.bad),(17,.bad),(30,.bad),(50,.bad),(75,.bad)],[],[(0,.box [.int .i64 a.Base,.int .i64 a.BaseTerm,sl TEntry.c a.Entries]),(1,.box [.int .i64 b.Base,.int .i64 b.BaseTerm,sl TEntry.c b.Entries])],2⟩ (blockQ 0 (seqQ Pg 76 0 (.seq (.reg none i22_R15) .ret) (qf_22 r))):=by
  unfold zgk at h
  refine LWp.stepC i22_L0.eq_1 ?_
  refine Wp.seq (Wp.seq ?_)
  replace h:=ifS h; rcases h with ⟨g4,h⟩ | ⟨g4,h⟩
  ·refine regP (seqN ?_)
   exact jumpK [] (zna zp h)
  ·refine regP (seqN ?_)
   exact jumpK [] (zna zp h)
theorem zqz{a b:TLog}{r:Bool}:∀ (n:Nat),zez a b (zco a b n) r:=by
  intro n
  induction n with
  | zero=>intro met at0 h; unfold zco at h; cases h
  | succ n ih=>intro met at0 h; unfold zco at h; exact zqa ih h
theorem znb{a b:TLog}{last:Int}{r:Bool} (h:zhz a b last=some r):Wp Pg 76 0 (.seq (.reg none i22_R4) (.seq (.seq (.reg none i22_R5) (.block 0 (.loop i22_L0))) (.seq (.reg none i22_R15) .ret))) ⟨[(0,.bad),(1,.bad),(2,.ptr 0 0),(3,.ptr 1 0),(4,.bad),(5,.int .i64 last),(6,.bad),(7,.bad),(8,.bad),(9,.bad),(10,.bad),(11,.bad),(17,.bad),(30,.bad),(50,.bad),(75,.bad)],[],[(0,.box [.int .i64 a.Base,.int .i64 a.BaseTerm,sl TEntry.c a.Entries]),(1,.box [.int .i64 b.Base,.int .i64 b.BaseTerm,sl TEntry.c b.Entries])],2⟩ (qf_22 r):=by
  unfold zhz at h
  refine Wp.seq (regP (seqN (Wp.seq (Wp.seq ?_))))
  refine regP (seqN (Wp.block (Wp.loop ?_)))
  exact jumpL [.kill [5]] (zqz _ h)
theorem zso{a:TLog}{b:TLog}{r:Bool} (h:zju a b=some r):Spec Pg 22 [.agg [.int .i64 a.Base,.int .i64 a.BaseTerm,sl TEntry.c a.Entries],.agg [.int .i64 b.Base,.int .i64 b.BaseTerm,sl TEntry.c b.Entries]] [] 0 (.bool r) [] 0:=by
  refine Spec.intro Go.Proofs.Try.func22 i22_ok (le_of_ble rfl) ?_
  show Wp Pg 76 0 i22_B ⟨argEnv _ i22_V,[],_,_⟩ (qf_22 r)
  unfold zju at h
  unfold i22_B
  refine weakP [] ?_
  refine Wp.seq (regP (seqN (Wp.seq (Wp.reg ?_))))
  replace h:=bndS h; obtain ⟨r0,g1,h⟩:=h
  refine chunkT 2 (tab_cons (zkz g1) (tab_nil _)) ?_
  refine lastT (tab_nil _) (seqN (Wp.seq (Wp.seq (Wp.reg ?_))))
  replace h:=bndS h; obtain ⟨r0_1,g2,h⟩:=h
  refine chunkT 2 (tab_cons (zkz g2) (tab_nil _)) ?_
  refine lastT (tab_nil _) (seqN ?_)
  replace h:=ifS h; rcases h with ⟨g3,h⟩ | ⟨g3,h⟩
  ·refine condTP (Wp.reg ?_)
   refine chunkT 2 (tab_cons (zkz g2) (tab_nil _)) ?_
   refine lastT (tab_nil _) (seqN ?_)
   exact jumpK [.kill [0,1,4,6,7,8,9,10,11,17,30,50,75],.tidy] (znb h)
  ·refine condFP (Wp.skip (seqN ?_))
   exact jumpK [.kill [0,1,4,6,7,8,9,10,11,17,30,50,75],.tidy] (znb h)
noncomputable abbrev qf_5(r:Bool):Ex→St→Prop:=FinQ 0 [.tmp 4] (.bool r) [] 0
noncomputable abbrev zfa(l:(List TOp))(rec0:Int→(List TRaft)→(List TMsg)→Option Bool)(r:Bool):Prop:=∀ {i:Int} {w_00:(List TRaft)} {w_10:(List TMsg)},rec0 i w_00 w_10=some r→LWp Pg 63 0 i5_L2 ⟨[(0,.bad),(1,sl TOp.c l),(4,.bad),(5,.ptr 0 0),(6,.int .i64 i),(7,.bad),(8,.bad),(11,.bad),(19,.bad),(32,.bad),(42,.bad),(45,.bad),(61,.bad)],[],[(0,.box [sl TRaft.c w_00,sl TMsg.c w_10])],1⟩ (blockQ 0 (seqQ Pg 63 0 (.seq (.reg none i5_R18) .ret) (qf_5 r)))
noncomputable abbrev zfb(l:(List TOp))(i:Int)(r0_4:TWorld)(rec0:Int→Option Bool)(r:Bool):Prop:=∀ {k:Int},rec0 k=some r→LWp Pg 63 0 i5_L1 ⟨[(0,.bad),(1,sl TOp.c l),(4,.bad),(5,.ptr 0 0),(6,.int .i64 i),(7,.int .i64 k),(8,.bad),(11,.bad),(19,.bad),(32,.bad),(42,.bad),(45,.bad),(61,.bad)],[],[(0,.box [sl TRaft.c r0_4.R,sl TMsg.c r0_4.Net])],1⟩ (blockQ 2 (blockQ 1 (seqQ Pg 63 0 (.reg none i5_R17) (loopQ Pg 63 0 i5_L2 (blockQ 0 (seqQ Pg 63 0 (.seq (.reg none i5_R18) .ret) (qf_5 r)))))))
noncomputable abbrev zlx(l:(List TOp))(i:Int)(r0_4:TWorld)(k:Int)(rec0:Int→Option Bool)(r:Bool):Prop:=∀ {j:Int},rec0 j=some r→LWp Pg 63 0 i5_L0 ⟨[(0,.bad),(1,sl TOp.c l),(4,.bad),(5,.ptr 0 0),(6,.int .i64 i),(7,.int .i64 k),(8,.int .i64 j),(11,.bad),(19,.bad),(32,.bad),(42,.bad),(45,.bad),(61,.bad)],[],[(0,.box [sl TRaft.c r0_4.R,sl TMsg.c r0_4.Net])],1⟩ (blockQ 4 (blockQ 3 (seqQ Pg 63 0 (.reg none i5_R16) (loopQ Pg 63 0 i5_L1 (blockQ 2 (blockQ 1 (seqQ Pg 63 0 (.reg none i5_R17) (loopQ Pg 63 0 i5_L2 (blockQ 0 (seqQ Pg 63 0 (.seq (.reg none i5_R18) .ret) (qf_5 r)))))))))))
theorem zpl {r:Bool} (h:zjz=some r):Wp Pg 63 0 (.seq (.reg none i5_R18) .ret) ⟨[(0,.bad),(1,.bad),(4,.bad),(5,.bad),(6,.bad),(7,.bad),(8,.bad),(11,.bad),(19,.bad),(32,.bad),(42,.bad),(45,.bad),(61,.bad)],[],[],0⟩ (qf_5 r):=by
  unfold zjz at h
  refine Wp.seq (Wp.reg ?_)
  replace h:=bndS h; obtain ⟨r0_7,g18,h⟩:=h
  replace h:=retS h; subst h
  refine chunkT 1 (tab_cons (zoq g18) (tab_nil _)) ?_
  refine lastT (tab_nil _) (seqN (Wp.ret ?_))
  exact finP
theorem zpm{l:(List TOp)}{i:Int}{r0_4:TWorld}{r:Bool}{zj:Int→(List TRaft)→(List TMsg)→Option Bool}(zbf:zfa l zj r)(h:zid zj i r0_4=some r):Wp Pg 63 0 (.reg none i5_R17) ⟨[(0,.bad),(1,sl TOp.c l),(4,.bad),(5,.ptr 0 0),(6,.int .i64 i),(7,.bad),(8,.bad),(11,.bad),(19,.bad),(32,.bad),(42,.bad),(45,.bad),(61,.bad)],[],[(0,.box [sl TRaft.c r0_4.R,sl TMsg.c r0_4.Net])],1⟩ (loopQ Pg 63 0 i5_L2 (blockQ 0 (seqQ Pg 63 0 (.seq (.reg none i5_R18) .ret) (qf_5 r)))):=by
  unfold zid at h
  refine regP (loopN ?_)
  exact jumpL [] (zbf h)
theorem zpn{l:(List TOp)}{i:Int}{r0_4:TWorld}{k:Int}{r:Bool}{zk:Int→Option Bool}(zbg:zfb l i r0_4 zk r)(h:zie zk k=some r):Wp Pg 63 0 (.reg none i5_R16) ⟨[(0,.bad),(1,sl TOp.c l),(4,.bad),(5,.ptr 0 0),(6,.int .i64 i),(7,.int .i64 k),(8,.bad),(11,.bad),(19,.bad),(32,.bad),(42,.bad),(45,.bad),(61,.bad)],[],[(0,.box [sl TRaft.c r0_4.R,sl TMsg.c r0_4.Net])],1⟩ (loopQ Pg 63 0 i5_L1 (blockQ 2 (blockQ 1 (seqQ Pg 63 0 (.reg none i5_R17) (loopQ Pg 63 0 i5_L2 (blockQ 0 (seqQ Pg 63 0 (.seq (.reg none i5_R18) .ret) (qf_5 r)))))))):=by
  unfold zie at h
  refine regP (loopN ?_)
  exact jumpL [] (zbg h)
theorem zoi{l:(List TOp)}{i:Int}{r0_4:TWorld}{k:Int}{r:Bool}{zk:Int→Option Bool}(zbg:zfb l i r0_4 zk r){zfw:Int→Option Bool}(zoa:zlx l i r0_4 k zfw r){j:Int}(h:zew zk r0_4 k zfw j=some r):LWp Pg 63 0 i5_L0 ⟨[(0,.bad),(1,sl TOp.c l),(4,.bad),(5,.ptr 0 0),(6,.int .i64 i),(7,.int .i64 k),(8,.int .i64 j),(11,.bad),(19,.bad),(32,.bad),(42,.bad),(45,.bad),(61,.bad)],[],[(0,.box [sl TRaft.c r0_4.R,sl TMsg.c r0_4.Net])],1⟩ (blockQ 4 (blockQ 3 (seqQ Pg 63 0 (.reg none i5_R16) (loopQ Pg 63 0 i5_L1 (blockQ 2 (blockQ 1 (seqQ Pg 63 0 (.reg none i5_R17) (loopQ Pg 63 0 i5_L2 (blockQ 0 (seqQ Pg 63 0 (.seq (.reg none i5_R18) .ret) (qf_5 r))))))))))):=by
  unfold zew at h
  refine LWp.stepC i5_L0.eq_1 ?_
  refine Wp.seq (Wp.seq (regP (seqN ?_)))
  replace h:=ifS h; rcases h with ⟨g13,h⟩ | ⟨g13,h⟩
  ·refine condTP (Wp.skip (seqN (Wp.seq (Wp.block (Wp.seq ?_)))))
   replace h:=bndS h; obtain ⟨e_2,g14,h⟩:=h
   replace h:=bndS h; obtain ⟨e_3,g15,h⟩:=h
   replace h:=bndS h; obtain ⟨r0_6,g16,h⟩:=h
   refine drawP [] mixed (clsC 12 (tab_cons (zso g16) (tab_nil _)) (clsN _)) (seqN ?_)
   replace h:=ifS h; rcases h with ⟨g17,h⟩ | ⟨g17,h⟩
   ·refine condFP (Wp.skip (blockN (seqN ?_)))
    refine regP (loopN ?_)
    exact jumpL [.kill [45,61],.tidy] (zoa h)
   ·replace h:=retS h; subst h
    refine condTP (Wp.seq ?_)
    refine regP (seqN (Wp.ret (blockR (seqR (loopR (blockR (blockR (seqR (loopR (blockR (blockR (seqR (loopR (blockR (seqR ?_)))))))))))))))
    exact finP
  ·refine condFP (Wp.out (seqO (loopO (blockO (blockN (seqN ?_))))))
   exact jumpK [.kill [8,45]] (zpn (l:=l) (i:=i) (r0_4:=r0_4) zbg h)
theorem zpo{l:(List TOp)}{i:Int}{r0_4:TWorld}{k:Int}{r:Bool}{zk:Int→Option Bool}(zbg:zfb l i r0_4 zk r):∀ (n:Nat),zlx l i r0_4 k (zbi zk r0_4 k n) r:=by
  intro n
  induction n with
  | zero=>intro j h; unfold zbi at h; cases h
  | succ n ih=>intro j h; unfold zbi at h; exact zoi (l:=l) (i:=i) zbg ih h
theorem zoj{l:(List TOp)}{i:Int}{r0_4:TWorld}{r:Bool}{zj:Int→(List TRaft)→(List TMsg)→Option Bool}(zbf:zfa l zj r){zk:Int→Option Bool}(zbg:zfb l i r0_4 zk r){k:Int}(h:zex zj i r0_4 zk k=some r):LWp Pg 63 0 i5_L1 ⟨[(0,.bad),(1,sl TOp.c l),(4,.bad),(5,.ptr 0 0),(6,.int .i64 i),(7,.int .i64 k),(8,.bad),(11,.bad),(19,.bad),(32,.bad),(42,.bad),(45,.bad),(61,.bad)],[],[(0,.box [sl TRaft.c r0_4.R,sl TMsg.c r0_4.Net])],1⟩ (blockQ 2 (blockQ 1 (seqQ Pg 63 0 (.reg none i5_R17) (loopQ Pg 63 0 i5_L2 (blockQ 0 (seqQ Pg 63 0 (.seq (.reg none i5_R18) .ret) (qf_5 r))))))):=by
  unfold zex at h
  refine LWp.stepC i5_L1.eq_1 ?_
  refine Wp.seq (Wp.seq (regP (seqN ?_)))
  replace h:=ifS h; rcases h with ⟨g9,h⟩ | ⟨g9,h⟩
  ·refine condTP (Wp.skip (seqN (Wp.seq (Wp.block (Wp.seq (Wp.seq (Wp.reg ?_)))))))
   replace h:=bndS h; obtain ⟨e_1,g10,h⟩:=h
   replace h:=bndS h; obtain ⟨r0_5,g11,h⟩:=h
   refine chunkT 7 (tab_cons (zsn g11) (tab_nil _)) ?_
   refine lastT (tab_nil _) (seqN ?_)
   replace h:=ifS h; rcases h with ⟨g12,h⟩ | ⟨g12,h⟩
   ·replace h:=retS h; subst h
    refine condTP (Wp.seq ?_)
    refine regP (seqN (Wp.ret (seqR (blockR (seqR (loopR (blockR (blockR (seqR (loopR (blockR (seqR ?_))))))))))))
    exact finP
   ·refine condFP (Wp.skip (seqN (Wp.seq ?_)))
    refine regP (seqN (Wp.block (Wp.loop ?_)))
    exact jumpL [.kill [32,42]] (zpo (l:=l) (i:=i) zbg _ h)
  ·refine condFP (Wp.out (seqO (loopO (blockO (blockN (seqN ?_))))))
   exact jumpK [.kill [7,32]] (zpm (l:=l) zbf h)
theorem zpp{l:(List TOp)}{i:Int}{r0_4:TWorld}{r:Bool}{zj:Int→(List TRaft)→(List TMsg)→Option Bool}(zbf:zfa l zj r):∀ (n:Nat),zfb l i r0_4 (zai zj i r0_4 n) r:=by
  intro n
  induction n with
  | zero=>intro k h; unfold zai at h; cases h
  | succ n ih=>intro k h; unfold zai at h; exact zoj (l:=l) zbf ih h
theorem zok{l:(List TOp)}{r:Bool} {zj:Int→(List TRaft)→(List TMsg)→Option Bool}(zbf:zfa l zj r){i:Int}{w_00:(List TRaft)}{w_10:(List TMsg)}(h:zey l zj i w_00 w_10=some r):LWp Pg 63 0 i5_L2 ⟨[(0,.bad),(1,sl TOp.c l),(4,.bad),(5,.ptr 0 0),(6,.int .i64 i),(7,.bad),(8,.bad),(11,.bad),(19,.bad),(32,.bad),(42,.bad),(45,.bad),(61,.bad)],[],[(0,.box [sl TRaft.c w_00,sl TMsg.c w_10])],1⟩ (blockQ 0 (seqQ Pg 63 0 (.seq (.reg none i5_R18) .ret) (qf_5 r))):=by
  unfold zey at h
  refine LWp.stepC i5_L2.eq_1 ?_
  refine Wp.seq (Wp.seq (regP (seqN ?_)))
  replace h:=ifS h; rcases h with ⟨g6,h⟩ | ⟨g6,h⟩
  ·refine condTP (Wp.skip (seqN (Wp.seq (Wp.block (Wp.seq ?_)))))
   replace h:=bndS h; obtain ⟨e,g7,h⟩:=h
   replace h:=bndS h; obtain ⟨r0_4,g8,h⟩:=h
   refine drawP [] mixed (clsC 5 (tab_cons (zsy g8) (tab_nil _)) (clsN _)) (seqN (Wp.seq ?_))
   refine regP (seqN (Wp.block (Wp.loop ?_)))
   exact jumpL [.kill [19],.tidy] (zpp (l:=l) zbf _ h)
  ·refine condFP (Wp.out (seqO (loopO (blockO (seqN ?_)))))
   exact jumpK [.kill [1,5,6,19],.tidy] (zpl h)
theorem zpq{l:(List TOp)}{r:Bool}:∀ (n:Nat),zfa l (zaw l n) r:=by
  intro n
  induction n with
  | zero=>intro i w_00 w_10 h; unfold zaw at h; cases h
  | succ n ih=>intro i w_00 w_10 h; unfold zaw at h; exact zok ih h
theorem w_m_law15_RaftLogs{n0:Int}{l:(List TOp)}{r:Bool} (h:zjm n0 l=some r):Spec Pg 5 [.int .u8 n0,sl TOp.c l] [] 0 (.bool r) [] 0:=by
  refine Spec.intro Go.Proofs.Try.func5 i5_ok (le_of_ble rfl) ?_
  show Wp Pg 63 0 i5_B ⟨argEnv _ i5_V,[],_,_⟩ (qf_5 r)
  unfold zjm at h
  unfold i5_B
  refine weakP [] ?_
  refine Wp.seq (regP (seqN (Wp.seq (Wp.seq (Wp.reg ?_)))))
  replace h:=bndS h; obtain ⟨r0,g1,h⟩:=h
  refine chunkT 2 (tab_cons (zsl g1) (tab_nil _)) ?_
  refine lastT (tab_nil _) (seqN ?_)
  replace h:=ifS h; rcases h with ⟨g2,h⟩ | ⟨g2,h⟩
  ·refine condFP (Wp.skip (seqN (Wp.seq (Wp.reg ?_))))
   replace h:=bndS h; obtain ⟨r0_2,g4,h⟩:=h
   refine chunkT 2 (tab_cons (zsr g4) (tab_nil _)) ?_
   replace h:=bndS h; obtain ⟨r0_3,g5,h⟩:=h
   refine chunkT 1 (tab_cons (zsm g5) (tab_nil _)) ?_
   refine lastT (tab_nil _) (seqN (Wp.seq (Wp.seq ?_)))
   refine regP (seqN (Wp.block (Wp.loop ?_)))
   exact jumpL [.kill [0,4,7,8,11,19,32,42,45,61]] (zpq _ h)
  ·refine condTP (Wp.seq (Wp.reg ?_))
   replace h:=bndS h; obtain ⟨r0_1,g3,h⟩:=h
   replace h:=retS h; subst h
   refine chunkT 1 (tab_cons (zoq g3) (tab_nil _)) ?_
   refine lastT (tab_nil _) (seqN (Wp.ret (seqR ?_)))
   exact finP
end Go.Proofs.Ytgoachcogmlhcaa.R
