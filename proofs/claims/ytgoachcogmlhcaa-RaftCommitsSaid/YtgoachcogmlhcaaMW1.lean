/- The program's functions answer what the models answer: 1. -/
import Derived.Test.YtgoachcogmlhcaaMW0
set_option maxRecDepth 100000
set_option maxHeartbeats 1600000
set_option linter.unusedVariables false
set_option linter.unusedSimpArgs false
set_option linter.defProp false
noncomputable section
namespace Go.Proofs.Ytgoachcogmlhcaa.R
open Go Nat
noncomputable abbrev qf_25(r:Int):Ex→St→Prop:=FinQ 0 [.tmp 2] (.int .i64 r) [] 0
theorem zsf{l:TLog}{r:Int} (h:zkf l=some r):Spec Pg 25 [.agg [.int .i64 l.Base,.int .i64 l.BaseTerm,sl TEntry.c l.Entries]] [] 0 (.int .i64 r) [] 0:=by
  refine Spec.intro Go.Proofs.Try.func25 i25_ok (le_of_ble rfl) ?_
  show Wp Pg 9 0 i25_B ⟨argEnv _ i25_V,[],_,_⟩ (qf_25 r)
  unfold zkf at h
  unfold i25_B
  refine weakP [] ?_
  replace h:=retS h; subst h
  refine Wp.seq (regP (seqN (Wp.seq ?_)))
  refine regP (seqN (Wp.ret ?_))
  exact finP
noncomputable abbrev qf_24(r:(TEntry × Bool)):Ex→St→Prop:=FinQ 0 [.cell 4 true 2,.tmp 5] (.tup [.agg [.int .i64 r.1.Term,sl (ci .u8) r.1.Data],.bool r.2]) [] 0
theorem zml{l:TLog}{at0:Int}{v15:Bool}{r:(TEntry × Bool)} (h:zhp l at0 v15=some r):Wp Pg 26 0 (.cond (.t 15) (.seq (.reg none i24_R2) .ret) .skip) ⟨[(0,.bad),(1,.int .i64 at0),(2,.ptr 0 0),(4,.ptr 1 0),(5,.bad),(15,.bool v15)],[],[(0,.box [.int .i64 l.Base,.int .i64 l.BaseTerm,sl TEntry.c l.Entries]),(1,.box [.int .i64 (0:Int),.nil])],2⟩ (seqQ Pg 26 0 (.seq (.reg none i24_R3) .ret) (qf_24 r)):=by
  unfold zhp at h
  replace h:=ifS h; rcases h with ⟨g3,h⟩ | ⟨g3,h⟩
  ·replace h:=retS h; subst h
   refine condTP (Wp.seq ?_)
   refine regP (seqN ?_)
   refine weakP [.cell 4 1 .frz] (Wp.ret (seqR ?_))
   exact finP
  ·refine condFP (Wp.skip (seqN (Wp.seq ?_)))
   replace h:=bndS h; obtain ⟨e,g4,h⟩:=h
   replace h:=retS h; subst h
   refine regP (seqN (Wp.ret ?_))
   exact finP
theorem zoi{l:TLog}{at0:Int}{r:(TEntry × Bool)} (h:zig l at0=some r):Spec Pg 24 [.agg [.int .i64 l.Base,.int .i64 l.BaseTerm,sl TEntry.c l.Entries],.int .i64 at0] [] 0 (.tup [.agg [.int .i64 r.1.Term,sl (ci .u8) r.1.Data],.bool r.2]) [] 0:=by
  refine Spec.intro Go.Proofs.Try.func24 i24_ok (le_of_ble rfl) ?_
  show Wp Pg 26 0 i24_B ⟨argEnv _ i24_V,[],_,_⟩ (qf_24 r)
  unfold zig at h
  unfold i24_B
  refine weakP [] ?_
  refine Wp.seq (regP (seqN (Wp.seq (Wp.seq (Wp.reg ?_)))))
  replace h:=ifS h; rcases h with ⟨g1,h⟩ | ⟨g1,h⟩
  ·refine lastT (tab_nil _) (seqN ?_)
   exact jumpK [.kill [0,5],.tidy] (zml h)
  ·replace h:=bndS h; obtain ⟨r0,g2,h⟩:=h
   refine chunkT 8 (tab_cons (zsf g2) (tab_nil _)) ?_
   refine lastT (tab_nil _) (seqN ?_)
   exact jumpK [.kill [0,5],.tidy] (zml h)
noncomputable abbrev qf_23_v1(r:((List TEntry) × Bool)):Ex→St→Prop:=FinQ 1 [.tmp 4,.tmp 5] (.tup [.own 2 1 0 ((r.1).length) false,.bool r.2]) [(1,.arr 2 (List.map TEntry.c r.1) 0)] 2
noncomputable abbrev zfb(r0:TRaft)(rec0:Int→(List TEntry)→Option ((List TEntry) × Bool))(r:((List TEntry) × Bool)):Prop:=∀ {at0:Int} {out:(List TEntry)},rec0 at0 out=some r→LWp Pg 85 1 i23_L0 ⟨[(0,.bad),(1,.bad),(3,.ptr 1 0),(4,.bad),(5,.bad),(6,.own 2 2 0 out.length false),(7,.int .i64 at0),(8,.bad),(9,.bad),(18,.bad),(36,.bad),(42,.bad),(68,.bad)],[],(hp14 r0.Id r0.N r0.Term r0.Vote r0.Role r0.Lead r0.Log.Base r0.Log.BaseTerm r0.Log.Entries r0.Commit r0.Snap r0.Granted r0.Next r0.Match r0.Clock r0.Wait out),3⟩ (blockQ 0 (seqQ Pg 85 1 (.seq (.reg (some []) i23_R12) .ret) (qf_23_v1 r)))
theorem zpb{r0:TRaft}{out_2:(List TEntry)}{r:((List TEntry) × Bool)} (h:zhz r0 out_2=some r):Wp Pg 85 1 (.seq (.reg (some []) i23_R12) .ret) ⟨[(0,.bad),(1,.bad),(3,.ptr 1 0),(4,.bad),(5,.bad),(6,.own 2 2 0 out_2.length false),(7,.bad),(8,.bad),(9,.bad),(18,.bad),(36,.bad),(42,.bad),(68,.bad)],[],(hp14 r0.Id r0.N r0.Term r0.Vote r0.Role r0.Lead r0.Log.Base r0.Log.BaseTerm r0.Log.Entries r0.Commit r0.Snap r0.Granted r0.Next r0.Match r0.Clock r0.Wait out_2),3⟩ (qf_23_v1 r):=by
  unfold zhz at h
  refine Wp.seq ?_
  replace h:=ifS h; rcases h with ⟨g10,h⟩ | ⟨g10,h⟩
  ·replace h:=retS h; subst h
   refine drawP [] mixed (clsN _) (seqN (Wp.ret ?_))
   exact finW [.kill [3,6],.tidy]
  ·replace h:=retS h; subst h
   refine drawP [] mixed (clsN _) (seqN (Wp.ret ?_))
   exact finW [.kill [3,6],.tidy]
theorem zlp{r0:TRaft}{at0:Int}{out_1:(List TEntry)}{r:((List TEntry) × Bool)}{zd:Int→(List TEntry)→Option ((List TEntry) × Bool)}(zac:zfb r0 zd r)(h:zei zd at0 out_1=some r):Wp Pg 85 1 (.reg none i23_R11) ⟨[(0,.bad),(1,.bad),(3,.ptr 1 0),(4,.bad),(5,.bad),(6,.own 2 2 0 out_1.length false),(7,.int .i64 at0),(8,.bad),(9,.bad),(18,.bad),(36,.bad),(42,.bad),(68,.bad)],[],(hp14 r0.Id r0.N r0.Term r0.Vote r0.Role r0.Lead r0.Log.Base r0.Log.BaseTerm r0.Log.Entries r0.Commit r0.Snap r0.Granted r0.Next r0.Match r0.Clock r0.Wait out_1),3⟩ (loopQ Pg 85 1 i23_L0 (blockQ 0 (seqQ Pg 85 1 (.seq (.reg (some []) i23_R12) .ret) (qf_23_v1 r)))):=by
  unfold zei at h
  refine regP (loopN ?_)
  exact jumpL [] (zac h)
theorem zlq{r0:TRaft}{at0:Int}{out:(List TEntry)}{v68:Bool}{r:((List TEntry) × Bool)}{zd:Int→(List TEntry)→Option ((List TEntry) × Bool)}(zac:zfb r0 zd r)(h:zfw zd at0 out v68=some r):Wp Pg 85 1 (.cond (.t 68) (.seq (.reg none i23_R10) .ret) .skip) ⟨[(0,.bad),(1,.bad),(3,.ptr 1 0),(4,.bad),(5,.bad),(6,.own 2 2 0 out.length false),(7,.int .i64 at0),(8,.bad),(9,.bad),(18,.bad),(36,.bad),(42,.bad),(68,.bool v68)],[],(hp14 r0.Id r0.N r0.Term r0.Vote r0.Role r0.Lead r0.Log.Base r0.Log.BaseTerm r0.Log.Entries r0.Commit r0.Snap r0.Granted r0.Next r0.Match r0.Clock r0.Wait out),3⟩ (blockQ 1 (seqQ Pg 85 1 (.reg none i23_R11) (loopQ Pg 85 1 i23_L0 (blockQ 0 (seqQ Pg 85 1 (.seq (.reg (some []) i23_R12) .ret) (qf_23_v1 r)))))):=by
  unfold zfw at h
  replace h:=ifS h; rcases h with ⟨g9,h⟩ | ⟨g9,h⟩
  ·replace h:=retS h; subst h
   refine condTP (Wp.seq ?_)
   refine regP (seqN (Wp.ret (blockR (seqR (loopR (blockR (seqR ?_)))))))
   exact finW [.kill [3,6,7,68],.tidy]
  ·refine condFP (Wp.skip (blockN (seqN ?_)))
   exact jumpK [.kill [68]] (zlp (r0:=r0) zac h)
theorem zlr{r0:TRaft}{at0:Int}{out:(List TEntry)}{r0_1:(TEntry × Bool)}{v36:Bool}{r:((List TEntry) × Bool)}{zd:Int→(List TEntry)→Option ((List TEntry) × Bool)}(zac:zfb r0 zd r)(h:zfx zd at0 out r0_1 v36=some r):Wp Pg 85 1 (.cond (.t 36) (.seq (.reg none i23_R6) .ret) .skip) ⟨[(0,.bad),(1,.bad),(3,.ptr 1 0),(4,.bad),(5,.bad),(6,.own 2 2 0 out.length false),(7,.int .i64 at0),(8,.ptr 3 0),(9,.bad),(18,.bad),(36,.bool v36),(42,.bad),(68,.bad)],[],(hp16 r0.Id r0.N r0.Term r0.Vote r0.Role r0.Lead r0.Log.Base r0.Log.BaseTerm r0.Log.Entries r0.Commit r0.Snap r0.Granted r0.Next r0.Match r0.Clock r0.Wait r0_1.1.Term r0_1.1.Data out),4⟩ (seqQ Pg 85 1 (.seq (.seq (.reg none i23_R7) (.cond (.t 42) (.seq (.reg none i23_R8) (.out 1)) .skip)) (.seq (.reg (some [(16,18),(15,19),(16,19)]) i23_R9) (.cond (.t 68) (.seq (.reg none i23_R10) .ret) .skip))) (blockQ 1 (seqQ Pg 85 1 (.reg none i23_R11) (loopQ Pg 85 1 i23_L0 (blockQ 0 (seqQ Pg 85 1 (.seq (.reg (some []) i23_R12) .ret) (qf_23_v1 r))))))):=by
  unfold zfx at h
  replace h:=ifS h; rcases h with ⟨g4,h⟩ | ⟨g4,h⟩
  ·replace h:=retS h; subst h
   refine condTP (Wp.seq ?_)
   refine regP (seqN (Wp.ret (seqR (blockR (seqR (loopR (blockR (seqR ?_))))))))
   exact finW [.kill [3,6,7,8,36],.tidy]
  ·refine condFP (Wp.skip (seqN (Wp.seq (Wp.seq ?_))))
   refine regP (seqN ?_)
   replace h:=ifS h; rcases h with ⟨g5,h⟩ | ⟨g5,h⟩
   ·refine condTP (Wp.seq ?_)
    replace h:=reqS h; obtain ⟨g6,h⟩:=h
    refine regP (seqN (Wp.out (seqO (blockO (seqN ?_)))))
    exact jumpK [.kill [8,36,42],.tidy] (zlp (r0:=r0) zac h)
   ·refine condFP (Wp.skip (seqN (Wp.seq ?_)))
    replace h:=bndS h; obtain ⟨e,g7,h⟩:=h
    replace h:=ifS h; rcases h with ⟨g8,h⟩ | ⟨g8,h⟩
    ·have:=ias_ownL (n:=2) (id:=2) (ex:=false) (k:=.i64) g7 rfl
     have:=ld_get (c:=TEntry.c) g7
     refine drawP [] mixed (clsN _) (seqN ?_)
     exact jumpK [.kill [8,36,42],.tidy] (zlq (r0:=r0) zac h)
    ·have:=ias_ownL (n:=2) (id:=2) (ex:=false) (k:=.i64) g7 rfl
     have:=ld_get (c:=TEntry.c) g7
     refine drawP [] mixed (clsN _) (seqN ?_)
     exact jumpK [.kill [8,36,42],.tidy] (zlq (r0:=r0) zac h)
theorem zoa{r0:TRaft}{r:((List TEntry) × Bool)} {zd:Int→(List TEntry)→Option ((List TEntry) × Bool)}(zac:zfb r0 zd r){at0:Int}{out:(List TEntry)}(h:zet r0 zd at0 out=some r):LWp Pg 85 1 i23_L0 ⟨[(0,.bad),(1,.bad),(3,.ptr 1 0),(4,.bad),(5,.bad),(6,.own 2 2 0 out.length false),(7,.int .i64 at0),(8,.bad),(9,.bad),(18,.bad),(36,.bad),(42,.bad),(68,.bad)],[],(hp14 r0.Id r0.N r0.Term r0.Vote r0.Role r0.Lead r0.Log.Base r0.Log.BaseTerm r0.Log.Entries r0.Commit r0.Snap r0.Granted r0.Next r0.Match r0.Clock r0.Wait out),3⟩ (blockQ 0 (seqQ Pg 85 1 (.seq (.reg (some []) i23_R12) .ret) (qf_23_v1 r))):=by
  unfold zet at h
  refine LWp.stepC i23_L0.eq_1 ?_
  refine Wp.seq (Wp.seq (regP (seqN ?_)))
  replace h:=ifS h; rcases h with ⟨g1,h⟩ | ⟨g1,h⟩
  ·refine condTP (Wp.skip (seqN (Wp.seq (Wp.block (Wp.seq (Wp.reg ?_))))))
   replace h:=bndS h; obtain ⟨r0_1,g2,h⟩:=h
   refine chunkT 4 (tab_cons (zoi g2) (tab_nil _)) ?_
   refine lastT (tab_nil _) (seqN (Wp.seq (Wp.seq ?_)))
   replace h:=ifS h; rcases h with ⟨g3,h⟩ | ⟨g3,h⟩
   ·refine regP (seqN ?_)
    exact jumpK [.kill [9,18],.tidy] (zlr (r0:=r0) zac h)
   ·refine regP (seqN ?_)
    exact jumpK [.kill [9,18],.tidy] (zlr (r0:=r0) zac h)
  ·refine condFP (Wp.out (seqO (loopO (blockO (seqN ?_)))))
   exact jumpK [.kill [7,18]] (zpb h)
theorem zpc{r0:TRaft}{r:((List TEntry) × Bool)}:∀ (n:Nat),zfb r0 (zbz r0 n) r:=by
  intro n
  induction n with
  | zero=>intro at0 out h; unfold zbz at h; cases h
  | succ n ih=>intro at0 out h; unfold zbz at h; exact zoa ih h
theorem zql{known:(List TEntry)}{r0:TRaft}{r:((List TEntry) × Bool)} (h:zhq known r0=some r):Spec Pg 23 [.own 2 0 0 known.length false,.agg [.int .i64 r0.Id,.int .i64 r0.N,.int .i64 r0.Term,.int .i64 r0.Vote,.int .i64 r0.Role,.int .i64 r0.Lead,.int .i64 r0.Log.Base,.int .i64 r0.Log.BaseTerm,sl TEntry.c r0.Log.Entries,.int .i64 r0.Commit,sl (ci .u8) r0.Snap,sl cb r0.Granted,sl (ci .i64) r0.Next,sl (ci .i64) r0.Match,.int .i64 r0.Clock,.int .i64 r0.Wait]] [(0,.arr 2 (List.map TEntry.c known) 0)] 1 (.tup [.own 2 1 0 ((r.1).length) false,.bool r.2]) [(1,.arr 2 (List.map TEntry.c r.1) 0)] 2:=by
  refine Spec.intro Go.Proofs.Try.func23 i23_ok (le_of_ble rfl) ?_
  show Wp Pg 85 1 i23_B ⟨argEnv _ i23_V,[],_,_⟩ (qf_23_v1 r)
  unfold zhq at h
  unfold i23_B
  refine weakP [.mov 0] ?_
  refine Wp.seq (regP (seqN (Wp.seq ?_)))
  refine regP (seqN (Wp.seq (Wp.seq ?_)))
  refine regP (seqN (Wp.block (Wp.loop ?_)))
  exact jumpL [.kill [0,1,4,5,8,9,18,36,42,68],.tidy] (zpc _ h)
noncomputable abbrev qf_60_v0(r:(List TEntry)):Ex→St→Prop:=FinQ 0 [.tmp 2] (.own 2 0 0 r.length false) [(0,.arr 2 (List.map TEntry.c r) 0)] 1
noncomputable abbrev zmm(l:(List TEntry))(rec0:Int→(List TEntry)→Option (List TEntry))(r:(List TEntry)):Prop:=∀ {v8:Int} {out:(List TEntry)},rec0 v8 out=some r→LWp Pg 23 0 i60_L0 ⟨[(0,.bad),(2,.bad),(3,.own 2 0 0 out.length false),(5,.bad),(6,sl TEntry.c l),(7,.int .i64 (l.length:Int)),(8,.int .i64 v8),(9,.bad)],[],[(0,.arr 2 (List.map TEntry.c out) 0)],1⟩ (blockQ 0 (seqQ Pg 23 0 (.seq (.reg none i60_R7) .ret) (qf_60_v0 r)))
theorem zpn{l:(List TEntry)}{r:(List TEntry)} {zgw:Int→(List TEntry)→Option (List TEntry)}(zpd:zmm l zgw r){v8:Int}{out:(List TEntry)}(h:zgd l zgw v8 out=some r):LWp Pg 23 0 i60_L0 ⟨[(0,.bad),(2,.bad),(3,.own 2 0 0 out.length false),(5,.bad),(6,sl TEntry.c l),(7,.int .i64 (l.length:Int)),(8,.int .i64 v8),(9,.bad)],[],[(0,.arr 2 (List.map TEntry.c out) 0)],1⟩ (blockQ 0 (seqQ Pg 23 0 (.seq (.reg none i60_R7) .ret) (qf_60_v0 r))):=by
  unfold zgd at h
  refine LWp.stepC i60_L0.eq_1 ?_
  refine Wp.seq (regP (seqN (Wp.seq ?_)))
  replace h:=ifS h; rcases h with ⟨g1,h⟩ | ⟨g1,h⟩
  ·refine condTP (Wp.skip (seqN (Wp.seq (Wp.block (Wp.seq ?_)))))
   replace h:=bndS h; obtain ⟨e,g2,h⟩:=h
   refine regP (seqN ?_)
   replace h:=reqS h; obtain ⟨g3,h⟩:=h
   replace h:=reqS h; obtain ⟨g4,h⟩:=h
   refine drawP [] mixed (clsN _) (blockN (seqN ?_))
   refine regP (loopN ?_)
   exact jumpL [.kill [5,9],.tidy] (zpd h)
  ·replace h:=retS h; subst h
   refine condFP (Wp.out (seqO (loopO (blockO (seqN (Wp.seq ?_))))))
   refine regP (seqN (Wp.ret ?_))
   exact finW [.kill [3,6,7,8,9],.tidy]
theorem zqm{l:(List TEntry)}{r:(List TEntry)}:∀ (n:Nat),zmm l (zdi l n) r:=by
  intro n
  induction n with
  | zero=>intro v8 out h; unfold zdi at h; cases h
  | succ n ih=>intro v8 out h; unfold zdi at h; exact zpn ih h
theorem zjx{l:(List TEntry)}{r:(List TEntry)} (h:zfp l=some r):Spec Pg 60 [sl TEntry.c l] [] 0 (.own 2 0 0 r.length false) [(0,.arr 2 (List.map TEntry.c r) 0)] 1:=by
  refine Spec.intro Go.Proofs.Try.func60 i60_ok (le_of_ble rfl) ?_
  show Wp Pg 23 0 i60_B ⟨argEnv _ i60_V,[],_,_⟩ (qf_60_v0 r)
  unfold zfp at h
  unfold i60_B
  refine weakP [] ?_
  refine Wp.seq (regP (seqN (Wp.seq ?_)))
  refine regP (seqN (Wp.seq (Wp.seq ?_)))
  refine regP (seqN (Wp.block (Wp.loop ?_)))
  exact jumpL [.kill [0,2,5,9],.at 3 (.virt 2)] (zqm _ h)
noncomputable abbrev qf_34_v0(r:TLog):Ex→St→Prop:=FinQ 0 [.cell 2 true 3] (.agg [.int .i64 r.Base,.int .i64 r.BaseTerm,.own 2 0 0 ((r.Entries).length) false]) [(0,.arr 2 (List.map TEntry.c r.Entries) 0)] 1
theorem zgr{l:TLog}{r:TLog} (h:zen l=some r):Spec Pg 34 [.agg [.int .i64 l.Base,.int .i64 l.BaseTerm,sl TEntry.c l.Entries]] [] 0 (.agg [.int .i64 r.Base,.int .i64 r.BaseTerm,.own 2 0 0 ((r.Entries).length) false]) [(0,.arr 2 (List.map TEntry.c r.Entries) 0)] 1:=by
  refine Spec.intro Go.Proofs.Try.func34 i34_ok (le_of_ble rfl) ?_
  show Wp Pg 11 0 i34_B ⟨argEnv _ i34_V,[],_,_⟩ (qf_34_v0 r)
  unfold zen at h
  unfold i34_B
  refine weakP [] ?_
  refine Wp.seq (regP (seqN (Wp.seq ?_)))
  replace h:=bndS h; obtain ⟨r0,g1,h⟩:=h
  replace h:=retS h; subst h
  refine drawP [60] mixed (clsC 6 (tab_cons (zjx g1) (tab_nil _)) (clsN _)) (seqN (Wp.ret ?_))
  exact finW [.kill [0,1],.tidy]
noncomputable abbrev qf_31_v0(r:TRaft):Ex→St→Prop:=FinQ 0 [.cell 2 true 16] (.agg [.int .i64 r.Id,.int .i64 r.N,.int .i64 r.Term,.int .i64 r.Vote,.int .i64 r.Role,.int .i64 r.Lead,.int .i64 r.Log.Base,.int .i64 r.Log.BaseTerm,.own 2 0 0 ((r.Log.Entries).length) false,.int .i64 r.Commit,.own 1 1 0 ((r.Snap).length) false,.own 1 2 0 ((r.Granted).length) false,.own 1 3 0 ((r.Next).length) false,.own 1 4 0 ((r.Match).length) false,.int .i64 r.Clock,.int .i64 r.Wait]) [(0,.arr 2 (List.map TEntry.c r.Log.Entries) 0),(1,.arr 1 (List.map (ci .u8) r.Snap) 0),(2,.arr 1 (List.map cb r.Granted) 0),(3,.arr 1 (List.map (ci .i64) r.Next) 0),(4,.arr 1 (List.map (ci .i64) r.Match) 0)] 5
theorem zsk{r0:TRaft}{r:TRaft} (h:zmj r0=some r):Spec Pg 31 [.agg [.int .i64 r0.Id,.int .i64 r0.N,.int .i64 r0.Term,.int .i64 r0.Vote,.int .i64 r0.Role,.int .i64 r0.Lead,.int .i64 r0.Log.Base,.int .i64 r0.Log.BaseTerm,sl TEntry.c r0.Log.Entries,.int .i64 r0.Commit,sl (ci .u8) r0.Snap,sl cb r0.Granted,sl (ci .i64) r0.Next,sl (ci .i64) r0.Match,.int .i64 r0.Clock,.int .i64 r0.Wait]] [] 0 (.agg [.int .i64 r.Id,.int .i64 r.N,.int .i64 r.Term,.int .i64 r.Vote,.int .i64 r.Role,.int .i64 r.Lead,.int .i64 r.Log.Base,.int .i64 r.Log.BaseTerm,.own 2 0 0 ((r.Log.Entries).length) false,.int .i64 r.Commit,.own 1 1 0 ((r.Snap).length) false,.own 1 2 0 ((r.Granted).length) false,.own 1 3 0 ((r.Next).length) false,.own 1 4 0 ((r.Match).length) false,.int .i64 r.Clock,.int .i64 r.Wait]) [(0,.arr 2 (List.map TEntry.c r.Log.Entries) 0),(1,.arr 1 (List.map (ci .u8) r.Snap) 0),(2,.arr 1 (List.map cb r.Granted) 0),(3,.arr 1 (List.map (ci .i64) r.Next) 0),(4,.arr 1 (List.map (ci .i64) r.Match) 0)] 5:=by
  refine Spec.intro Go.Proofs.Try.func31 i31_ok (le_of_ble rfl) ?_
  show Wp Pg 24 0 i31_B ⟨argEnv _ i31_V,[],_,_⟩ (qf_31_v0 r)
  unfold zmj at h
  unfold i31_B
  refine weakP [] ?_
  refine Wp.seq (regP (seqN (Wp.seq (Wp.reg ?_))))
  replace h:=bndS h; obtain ⟨r0_1,g1,h⟩:=h
  refine chunkF 3 (tab_cons (zgr g1) (tab_nil _)) ?_
  refine lastT (tab_nil _) (seqN (Wp.seq ?_))
  replace h:=reqS h; obtain ⟨g2,h⟩:=h
  replace h:=reqS h; obtain ⟨g3,h⟩:=h
  refine drawP [] mixed (clsN _) (seqN (Wp.seq ?_))
  replace h:=reqS h; obtain ⟨g4,h⟩:=h
  replace h:=reqS h; obtain ⟨g5,h⟩:=h
  replace h:=retS h; subst h
  refine drawP [] mixed (clsN _) (seqN (Wp.seq ?_))
  refine regP (seqN (Wp.ret ?_))
  exact finW [.kill [0,1],.tidy]
noncomputable abbrev qf_49_v0(r:Tmember):Ex→St→Prop:=FinQ 0 [.tmp 2] (.ptr 0 0) (hp30 r.Raft.Id r.Raft.N r.Raft.Term r.Raft.Vote r.Raft.Role r.Raft.Lead r.Raft.Log.Base r.Raft.Log.BaseTerm r.Raft.Log.Entries r.Raft.Commit r.Raft.Snap r.Raft.Granted r.Raft.Next r.Raft.Match r.Raft.Clock r.Raft.Wait r.f_out) 7
theorem zmk{r0:TRaft}{r:Tmember} (h:zjg r0=some r):Spec Pg 49 [.agg [.int .i64 r0.Id,.int .i64 r0.N,.int .i64 r0.Term,.int .i64 r0.Vote,.int .i64 r0.Role,.int .i64 r0.Lead,.int .i64 r0.Log.Base,.int .i64 r0.Log.BaseTerm,sl TEntry.c r0.Log.Entries,.int .i64 r0.Commit,sl (ci .u8) r0.Snap,sl cb r0.Granted,sl (ci .i64) r0.Next,sl (ci .i64) r0.Match,.int .i64 r0.Clock,.int .i64 r0.Wait]] [] 0 (.ptr 0 0) (hp30 r.Raft.Id r.Raft.N r.Raft.Term r.Raft.Vote r.Raft.Role r.Raft.Lead r.Raft.Log.Base r.Raft.Log.BaseTerm r.Raft.Log.Entries r.Raft.Commit r.Raft.Snap r.Raft.Granted r.Raft.Next r.Raft.Match r.Raft.Clock r.Raft.Wait r.f_out) 7:=by
  refine Spec.intro Go.Proofs.Try.func49 i49_ok (le_of_ble rfl) ?_
  show Wp Pg 7 0 i49_B ⟨argEnv _ i49_V,[],_,_⟩ (qf_49_v0 r)
  unfold zjg at h
  unfold i49_B
  refine weakP [] ?_
  refine Wp.seq (regP (seqN (Wp.seq (Wp.reg ?_))))
  replace h:=bndS h; obtain ⟨r0_1,g1,h⟩:=h
  replace h:=retS h; subst h
  refine chunkF 2 (tab_cons (zsk g1) (tab_nil _)) ?_
  refine lastT (tab_nil _) (seqN (Wp.ret ?_))
  exact finW [.cell 2 16 (.virt 11),.kill [0,1],.tidy]
noncomputable abbrev qf_76_v0(x0:TMsg)(r:Tmember):Ex→St→Prop:=FinQ 7 [] (.tup []) (zst r.Raft.Id r.Raft.N r.Raft.Term r.Raft.Vote r.Raft.Role r.Raft.Lead r.Raft.Log.Base r.Raft.Log.BaseTerm r.Raft.Log.Entries r.Raft.Commit r.Raft.Snap r.Raft.Granted r.Raft.Next r.Raft.Match r.Raft.Clock r.Raft.Wait r.f_out x0.Data) 8
theorem zlu{to0:Int}{x0:TMsg}{m:Tmember}{r:Tmember} (h:zcc to0 x0 m=some r):Spec Pg 76 [.ptr 0 0,.int .i64 to0,.agg [.int .i64 x0.Kind,.int .i64 x0.Group,.int .i64 x0.From,.int .i64 x0.To,.int .i64 x0.Term,.int .i64 x0.At,.int .i64 x0.AtTerm,.int .i64 x0.Commit,.bool x0.Ok,sl TEntry.c x0.Entries,.own 1 6 0 ((x0.Data).length) false]] (ztc m.Raft.Id m.Raft.N m.Raft.Term m.Raft.Vote m.Raft.Role m.Raft.Lead m.Raft.Log.Base m.Raft.Log.BaseTerm m.Raft.Log.Entries m.Raft.Commit m.Raft.Snap m.Raft.Granted m.Raft.Next m.Raft.Match m.Raft.Clock m.Raft.Wait m.f_out x0.Data) 7 (.tup []) (zst r.Raft.Id r.Raft.N r.Raft.Term r.Raft.Vote r.Raft.Role r.Raft.Lead r.Raft.Log.Base r.Raft.Log.BaseTerm r.Raft.Log.Entries r.Raft.Commit r.Raft.Snap r.Raft.Granted r.Raft.Next r.Raft.Match r.Raft.Clock r.Raft.Wait r.f_out x0.Data) 8:=by
  refine Spec.intro Go.Proofs.Try.func76 i76_ok (le_of_ble rfl) ?_
  show Wp Pg 24 7 i76_B ⟨argEnv _ i76_V,[],_,_⟩ (qf_76_v0 x0 r)
  unfold zcc at h
  unfold i76_B
  refine weakP [.movc 0 16] ?_
  refine Wp.seq (regP (seqN (Wp.seq ?_)))
  refine regP (seqN ?_)
  replace h:=reqS h; obtain ⟨g1,h⟩:=h
  replace h:=retS h; subst h
  refine drawP [] mixed (clsN _) ?_
  exact finW [.kill [0,1,2,5],.tidy]
noncomputable abbrev qf_55(r:Int):Ex→St→Prop:=FinQ 0 [.tmp 2] (.int .i64 r) [] 0
theorem zbh{l:TLog}{r:Int} (h:zag l=some r):Spec Pg 55 [.agg [.int .i64 l.Base,.int .i64 l.BaseTerm,sl TEntry.c l.Entries]] [] 0 (.int .i64 r) [] 0:=by
  refine Spec.intro Go.Proofs.Try.func55 i55_ok (le_of_ble rfl) ?_
  show Wp Pg 9 0 i55_B ⟨argEnv _ i55_V,[],_,_⟩ (qf_55 r)
  unfold zag at h
  unfold i55_B
  refine weakP [] ?_
  replace h:=retS h; subst h
  refine Wp.seq (regP (seqN (Wp.seq ?_)))
  refine regP (seqN (Wp.ret ?_))
  exact finP
noncomputable abbrev qf_59(r:(Int × Bool)):Ex→St→Prop:=FinQ 0 [.tmp 4,.tmp 5] (.tup [.int .i64 r.1,.bool r.2]) [] 0
theorem znp{l:TLog}{at0:Int}{v13:Bool}{r:(Int × Bool)} (h:ziv l at0 v13=some r):Wp Pg 34 0 (.cond (.t 13) (.seq (.reg none i59_R4) .ret) .skip) ⟨[(0,.bad),(1,.int .i64 at0),(2,.ptr 0 0),(4,.bad),(5,.bad),(6,.bad),(13,.bool v13)],[],[(0,.box [.int .i64 l.Base,.int .i64 l.BaseTerm,sl TEntry.c l.Entries])],1⟩ (blockQ 0 (seqQ Pg 34 0 (.seq (.reg none i59_R5) .ret) (qf_59 r))):=by
  unfold ziv at h
  replace h:=ifS h; rcases h with ⟨g4,h⟩ | ⟨g4,h⟩
  ·replace h:=retS h; subst h
   refine condTP (Wp.seq ?_)
   refine regP (seqN (Wp.ret (blockR (seqR ?_))))
   exact finP
  ·refine condFP (Wp.skip (blockN (seqN (Wp.seq ?_))))
   replace h:=bndS h; obtain ⟨e,g5,h⟩:=h
   replace h:=retS h; subst h
   refine regP (seqN (Wp.ret ?_))
   exact finP
theorem zcp{l:TLog}{at0:Int}{r:(Int × Bool)} (h:zbk l at0=some r):Spec Pg 59 [.agg [.int .i64 l.Base,.int .i64 l.BaseTerm,sl TEntry.c l.Entries],.int .i64 at0] [] 0 (.tup [.int .i64 r.1,.bool r.2]) [] 0:=by
  refine Spec.intro Go.Proofs.Try.func59 i59_ok (le_of_ble rfl) ?_
  show Wp Pg 34 0 i59_B ⟨argEnv _ i59_V,[],_,_⟩ (qf_59 r)
  unfold zbk at h
  unfold i59_B
  refine weakP [] ?_
  refine Wp.seq (regP (seqN (Wp.seq (Wp.block (Wp.seq ?_)))))
  refine regP (seqN ?_)
  replace h:=ifS h; rcases h with ⟨g1,h⟩ | ⟨g1,h⟩
  ·replace h:=retS h; subst h
   refine condTP (Wp.seq ?_)
   refine regP (seqN (Wp.ret (blockR (seqR ?_))))
   exact finP
  ·refine condFP (Wp.seq (Wp.reg ?_))
   replace h:=ifS h; rcases h with ⟨g2,h⟩ | ⟨g2,h⟩
   ·refine lastT (tab_nil _) (seqN ?_)
    exact jumpK [.kill [0,4,5,6]] (znp h)
   ·replace h:=bndS h; obtain ⟨r0,g3,h⟩:=h
    refine chunkT 8 (tab_cons (zbh g3) (tab_nil _)) ?_
    refine lastT (tab_nil _) (seqN ?_)
    exact jumpK [.kill [0,4,5,6]] (znp h)
noncomputable abbrev qf_75(r:(List TEntry)):Ex→St→Prop:=FinQ 0 [.tmp 6] (sl TEntry.c r) [] 0
theorem zlm{l:TLog}{at0 most:Int}{v21:Bool}{r:(List TEntry)} (h:zhl l at0 most v21=some r):Wp Pg 37 0 (.cond (.t 21) (.seq (.reg none i75_R2) .ret) .skip) ⟨[(0,.bad),(1,.int .i64 at0),(2,.int .i64 most),(3,.ptr 0 0),(6,.bad),(7,.bad),(21,.bool v21)],[],[(0,.box [.int .i64 l.Base,.int .i64 l.BaseTerm,sl TEntry.c l.Entries])],1⟩ (seqQ Pg 37 0 (.seq (.reg none i75_R3) (.seq (.reg none i75_R4) .ret)) (qf_75 r)):=by
  unfold zhl at h
  replace h:=ifS h; rcases h with ⟨g4,h⟩ | ⟨g4,h⟩
  ·replace h:=retS h; subst h
   refine condTP (Wp.seq ?_)
   refine regP (seqN ?_)
   refine weakP [.at 6 .frz] (Wp.ret (seqR ?_))
   exact finP
  ·refine condFP (Wp.skip (seqN (Wp.seq ?_)))
   replace h:=bndS h; obtain ⟨l_1,g5,h⟩:=h
   refine regP (seqN (Wp.seq (Wp.reg ?_)))
   replace h:=bndS h; obtain ⟨l_2,g6,h⟩:=h
   replace h:=bndS h; obtain ⟨r0_1,g7,h⟩:=h
   replace h:=retS h; subst h
   refine chunkF 7 (tab_cons (zjx g7) (tab_nil _)) ?_
   refine lastT (tab_nil _) (seqN ?_)
   refine weakP [.at 6 .frz] (Wp.ret ?_)
   exact finP
theorem zpu{l:TLog}{at0:Int}{most:Int}{r:(List TEntry)} (h:zio l at0 most=some r):Spec Pg 75 [.agg [.int .i64 l.Base,.int .i64 l.BaseTerm,sl TEntry.c l.Entries],.int .i64 at0,.int .i64 most] [] 0 (sl TEntry.c r) [] 0:=by
  refine Spec.intro Go.Proofs.Try.func75 i75_ok (le_of_ble rfl) ?_
  show Wp Pg 37 0 i75_B ⟨argEnv _ i75_V,[],_,_⟩ (qf_75 r)
  unfold zio at h
  unfold i75_B
  refine weakP [] ?_
  refine Wp.seq (regP (seqN (Wp.seq (Wp.seq (Wp.reg ?_)))))
  replace h:=ifS h; rcases h with ⟨g1,h⟩ | ⟨g1,h⟩
  ·refine lastT (tab_nil _) (seqN ?_)
   exact jumpK [.kill [0,6,7]] (zlm h)
  ·replace h:=bndS h; obtain ⟨r0,g2,h⟩:=h
   refine chunkT 8 (tab_cons (zbh g2) (tab_nil _)) ?_
   replace h:=ifS h; rcases h with ⟨g3,h⟩ | ⟨g3,h⟩
   ·refine lastT (tab_nil _) (seqN ?_)
    exact jumpK [.kill [0,6,7]] (zlm h)
   ·refine lastT (tab_nil _) (seqN ?_)
    exact jumpK [.kill [0,6,7]] (zlm h)
noncomputable abbrev qf_51_v1(r:Tmember):Ex→St→Prop:=FinQ 6 [] (.tup []) (zji r.Raft.Id r.Raft.N r.Raft.Term r.Raft.Vote r.Raft.Role r.Raft.Lead r.Raft.Log.Base r.Raft.Log.BaseTerm r.Raft.Log.Entries r.Raft.Commit r.Raft.Snap r.Raft.Granted r.Raft.Next r.Raft.Match r.Raft.Clock r.Raft.Wait r.f_out) 7
theorem zjp{to0:Int}{m:Tmember}{x_0 x_5 x_6:Int}{x_9:(List TEntry)}{x_10:(List Int)}{r:Tmember} (h:zff to0 m x_0 x_5 x_6 x_9 x_10=some r):Wp Pg 84 6 (.reg none i51_R7) ⟨[(0,.ptr 0 0),(1,.int .i64 to0),(4,.bad),(5,.ptr 7 0),(33,.bad)],[],(hp77 m.Raft.Id m.Raft.N m.Raft.Term m.Raft.Vote m.Raft.Role m.Raft.Lead m.Raft.Log.Base m.Raft.Log.BaseTerm m.Raft.Log.Entries m.Raft.Commit m.Raft.Snap m.Raft.Granted m.Raft.Next m.Raft.Match m.Raft.Clock m.Raft.Wait m.f_out x_0 (0:Int) (0:Int) (0:Int) m.Raft.Term x_5 x_6 m.Raft.Commit x_9 x_10),9⟩ (qf_51_v1 r):=by
  unfold zff at h
  refine Wp.reg ?_
  replace h:=bndS h; obtain ⟨r0_2,g6,h⟩:=h
  replace h:=retS h; subst h
  refine lastF (tab_cons (zlu g6) (tab_nil _)) ?_
  exact finW [.kill [0,1,5],.tidy]
theorem zie{to0:Int}{m:Tmember}{r:Tmember} (h:zax to0 m=some r):Spec Pg 51 [.ptr 0 0,.int .i64 to0] (zng m.Raft.Id m.Raft.N m.Raft.Term m.Raft.Vote m.Raft.Role m.Raft.Lead m.Raft.Log.Base m.Raft.Log.BaseTerm m.Raft.Log.Entries m.Raft.Commit m.Raft.Snap m.Raft.Granted m.Raft.Next m.Raft.Match m.Raft.Clock m.Raft.Wait m.f_out) 6 (.tup []) (zji r.Raft.Id r.Raft.N r.Raft.Term r.Raft.Vote r.Raft.Role r.Raft.Lead r.Raft.Log.Base r.Raft.Log.BaseTerm r.Raft.Log.Entries r.Raft.Commit r.Raft.Snap r.Raft.Granted r.Raft.Next r.Raft.Match r.Raft.Clock r.Raft.Wait r.f_out) 7:=by
  refine Spec.intro Go.Proofs.Try.func51 i51_ok (le_of_ble rfl) ?_
  show Wp Pg 84 6 i51_B ⟨argEnv _ i51_V,[],_,_⟩ (qf_51_v1 r)
  unfold zax at h
  unfold i51_B
  refine weakP [.movc 0 16] ?_
  refine Wp.seq ?_
  replace h:=bndS h; obtain ⟨e,g1,h⟩:=h
  have:=ias_ownL (n:=1) (id:=3) (ex:=false) (k:=.i64) g1 rfl
  have:=ld_get (c:=(ci .i64)) g1
  refine regP (seqN (Wp.seq ?_))
  refine drawP [] mixed (clsN _) (seqN (Wp.seq (Wp.seq ?_)))
  refine regP (seqN ?_)
  replace h:=ifS h; rcases h with ⟨g2,h⟩ | ⟨g2,h⟩
  ·refine condTP ?_
   replace h:=reqS h; obtain ⟨g3,h⟩:=h
   refine drawP [] mixed (clsN _) (seqN ?_)
   exact jumpK [.kill [4,33],.cell 5 9 .frz,.tidy] (zjp h)
  ·refine condFP (Wp.seq ?_)
   refine regP (seqN (Wp.seq ?_))
   replace h:=bndS h; obtain ⟨r0,g4,h⟩:=h
   refine drawP [] mixed (clsC 7 (tab_cons (zcp g4) (tab_nil _)) (clsN _)) (seqN (Wp.reg ?_))
   replace h:=bndS h; obtain ⟨r0_1,g5,h⟩:=h
   refine chunkT 7 (tab_cons (zpu g5) (tab_nil _)) ?_
   refine lastT (tab_nil _) (seqN ?_)
   exact jumpK [.kill [4,33],.cell 5 10 (.virt 1),.tidy] (zjp h)
noncomputable abbrev qf_50_v0(r:Tmember):Ex→St→Prop:=FinQ 7 [] (.tup []) (hp59 r.Raft.Id r.Raft.N r.Raft.Term r.Raft.Vote r.Raft.Role r.Raft.Lead r.Raft.Log.Base r.Raft.Log.BaseTerm r.Raft.Log.Entries r.Raft.Commit r.Raft.Snap r.Raft.Granted r.Raft.Next r.Raft.Match r.Raft.Clock r.Raft.Wait r.f_out) 8
noncomputable abbrev zir (rec0:Int→Int→Int→Int→Int→Int→Int→Int→Int→(List TEntry)→Int→Int→Int→(List Int)→(List Bool)→(List Int)→(List Int)→(List TMsg)→Option Tmember)(r:Tmember):Prop:=∀ {to0 m_00 m_10 m_20 m_30 m_40 m_50 m_60 m_70:Int} {m_80:(List TEntry)} {m_90 ze zg:Int} {zf:(List Int)} {zh:(List Bool)} {zc zi:(List Int)} {zj:(List TMsg)},rec0 to0 m_00 m_10 m_20 m_30 m_40 m_50 m_60 m_70 m_80 m_90 ze zg zf zh zc zi zj=some r→LWp Pg 24 7 i50_L0 ⟨[(0,.ptr 0 0),(1,.fn (.func 51) [.ptr 0 0] []),(4,.int .i64 to0),(11,.bad),(20,.bad)],[],(hp59 m_00 m_10 m_20 m_30 m_40 m_50 m_60 m_70 m_80 m_90 zf zh zc zi ze zg zj),8⟩ (blockQ 0 (qf_50_v0 r))
theorem zlg{to0 zbl zbm zbn zbo zbp zbq zbr zbs:Int}{zbt:(List TEntry)}{zbu zao zap:Int}{zaq:(List Int)}{zar:(List Bool)}{zx zas:(List Int)}{zat:(List TMsg)}{r:Tmember}{zab:Int→Int→Int→Int→Int→Int→Int→Int→Int→(List TEntry)→Int→Int→Int→(List Int)→(List Bool)→(List Int)→(List Int)→(List TMsg)→Option Tmember}(zfd:zir zab r)(h:zgx zab to0 zbl zbm zbn zbo zbp zbq zbr zbs zbt zbu zao zap zaq zar zx zas zat=some r):Wp Pg 24 7 (.reg none i50_R4) ⟨[(0,.ptr 0 0),(1,.fn (.func 51) [.ptr 0 0] []),(4,.int .i64 to0),(11,.bad),(20,.bad)],[],(hp59 zbl zbm zbn zbo zbp zbq zbr zbs zbt zbu zaq zar zx zas zao zap zat),8⟩ (loopQ Pg 24 7 i50_L0 (blockQ 0 (qf_50_v0 r))):=by
  unfold zgx at h
  refine regP (loopN ?_)
  exact jumpL [] (zfd h)
theorem znq {r:Tmember} {zab:Int→Int→Int→Int→Int→Int→Int→Int→Int→(List TEntry)→Int→Int→Int→(List Int)→(List Bool)→(List Int)→(List Int)→(List TMsg)→Option Tmember}(zfd:zir zab r){to0 m_00 m_10 m_20 m_30 m_40 m_50 m_60 m_70:Int}{m_80:(List TEntry)}{m_90 ze zg:Int}{zf:(List Int)}{zh:(List Bool)}{zc zi:(List Int)}{zj:(List TMsg)}(h:zip zab to0 m_00 m_10 m_20 m_30 m_40 m_50 m_60 m_70 m_80 m_90 ze zg zf zh zc zi zj=some r):LWp Pg 24 7 i50_L0 ⟨[(0,.ptr 0 0),(1,.fn (.func 51) [.ptr 0 0] []),(4,.int .i64 to0),(11,.bad),(20,.bad)],[],(hp59 m_00 m_10 m_20 m_30 m_40 m_50 m_60 m_70 m_80 m_90 zf zh zc zi ze zg zj),8⟩ (blockQ 0 (qf_50_v0 r)):=by
  unfold zip at h
  refine LWp.stepC i50_L0.eq_1 ?_
  refine Wp.seq (Wp.seq (regP (seqN ?_)))
  replace h:=ifS h; rcases h with ⟨g1,h⟩ | ⟨g1,h⟩
  ·refine condTP (Wp.skip (seqN (Wp.seq (Wp.block (Wp.seq ?_)))))
   refine regP (seqN ?_)
   replace h:=ifS h; rcases h with ⟨g2,h⟩ | ⟨g2,h⟩
   ·refine condTP (Wp.reg ?_)
    replace h:=bndS h; obtain ⟨r0,g3,h⟩:=h
    refine lastF (tab_cons (zie g3) (tab_nil _)) (blockN (seqN ?_))
    exact jumpK [.kill [11,20],.tidy] (zlg zfd h)
   ·refine condFP (Wp.skip (blockN (seqN ?_)))
    exact jumpK [.kill [11,20]] (zlg zfd h)
  ·replace h:=retS h; subst h
   refine condFP (Wp.out (seqO (loopO (blockO ?_))))
   exact finW [.kill [0,1,4,11],.tidy]
theorem zop {r:Tmember}:∀ (n:Nat),zir (zdq n) r:=by
  intro n
  induction n with
  | zero=>intro to0 m_00 m_10 m_20 m_30 m_40 m_50 m_60 m_70 m_80 m_90 ze zg zf zh zc zi zj h; unfold zdq at h; cases h
  | succ n ih=>intro to0 m_00 m_10 m_20 m_30 m_40 m_50 m_60 m_70 m_80 m_90 ze zg zf zh zc zi zj h; unfold zdq at h; exact znq ih h
theorem zpv{m:Tmember}{r:Tmember} (h:zgs m=some r):Spec Pg 50 [.ptr 0 0,.fn (.func 51) [.ptr 0 0] []] (hp30 m.Raft.Id m.Raft.N m.Raft.Term m.Raft.Vote m.Raft.Role m.Raft.Lead m.Raft.Log.Base m.Raft.Log.BaseTerm m.Raft.Log.Entries m.Raft.Commit m.Raft.Snap m.Raft.Granted m.Raft.Next m.Raft.Match m.Raft.Clock m.Raft.Wait m.f_out) 7 (.tup []) (hp59 r.Raft.Id r.Raft.N r.Raft.Term r.Raft.Vote r.Raft.Role r.Raft.Lead r.Raft.Log.Base r.Raft.Log.BaseTerm r.Raft.Log.Entries r.Raft.Commit r.Raft.Snap r.Raft.Granted r.Raft.Next r.Raft.Match r.Raft.Clock r.Raft.Wait r.f_out) 8:=by
  refine Spec.intro Go.Proofs.Try.func50 i50_ok (le_of_ble rfl) ?_
  show Wp Pg 24 7 i50_B ⟨argEnv _ i50_V,[],_,_⟩ (qf_50_v0 r)
  unfold zgs at h
  unfold i50_B
  refine weakP [.movc 0 16,.movc 0 8] ?_
  refine Wp.seq (regP (seqN (Wp.block (Wp.loop ?_))))
  exact jumpL [.kill [11,20],.cell 0 8 .frz,.tidy] (zop _ h)
noncomputable abbrev qf_50_v1(r:Tmember):Ex→St→Prop:=FinQ 6 [] (.tup []) (zji r.Raft.Id r.Raft.N r.Raft.Term r.Raft.Vote r.Raft.Role r.Raft.Lead r.Raft.Log.Base r.Raft.Log.BaseTerm r.Raft.Log.Entries r.Raft.Commit r.Raft.Snap r.Raft.Granted r.Raft.Next r.Raft.Match r.Raft.Clock r.Raft.Wait r.f_out) 7
noncomputable abbrev zhf (rec0:Int→Int→Int→Int→Int→Int→Int→Int→Int→(List TEntry)→Int→Int→Int→(List Int)→(List Bool)→(List Int)→(List Int)→(List TMsg)→Option Tmember)(r:Tmember):Prop:=∀ {to0 m_00 m_10 m_20 m_30 m_40 m_50 m_60 m_70:Int} {m_80:(List TEntry)} {m_90 ze zg:Int} {zf:(List Int)} {zh:(List Bool)} {zc zi:(List Int)} {zj:(List TMsg)},rec0 to0 m_00 m_10 m_20 m_30 m_40 m_50 m_60 m_70 m_80 m_90 ze zg zf zh zc zi zj=some r→LWp Pg 24 6 i50_L0 ⟨[(0,.ptr 0 0),(1,.fn (.func 51) [.ptr 0 0] []),(4,.int .i64 to0),(11,.bad),(20,.bad)],[],(zji m_00 m_10 m_20 m_30 m_40 m_50 m_60 m_70 m_80 m_90 zf zh zc zi ze zg zj),7⟩ (blockQ 0 (qf_50_v1 r))
theorem zjy{to0 zbl zbm zbn zbo zbp zbq zbr zbs:Int}{zbt:(List TEntry)}{zbu zao zap:Int}{zaq:(List Int)}{zar:(List Bool)}{zx zas:(List Int)}{zat:(List TMsg)}{r:Tmember}{zq:Int→Int→Int→Int→Int→Int→Int→Int→Int→(List TEntry)→Int→Int→Int→(List Int)→(List Bool)→(List Int)→(List Int)→(List TMsg)→Option Tmember}(zdu:zhf zq r)(h:zfr zq to0 zbl zbm zbn zbo zbp zbq zbr zbs zbt zbu zao zap zaq zar zx zas zat=some r):Wp Pg 24 6 (.reg none i50_R4) ⟨[(0,.ptr 0 0),(1,.fn (.func 51) [.ptr 0 0] []),(4,.int .i64 to0),(11,.bad),(20,.bad)],[],(zji zbl zbm zbn zbo zbp zbq zbr zbs zbt zbu zaq zar zx zas zao zap zat),7⟩ (loopQ Pg 24 6 i50_L0 (blockQ 0 (qf_50_v1 r))):=by
  unfold zfr at h
  refine regP (loopN ?_)
  exact jumpL [] (zdu h)
theorem zmn {r:Tmember} {zq:Int→Int→Int→Int→Int→Int→Int→Int→Int→(List TEntry)→Int→Int→Int→(List Int)→(List Bool)→(List Int)→(List Int)→(List TMsg)→Option Tmember}(zdu:zhf zq r){to0 m_00 m_10 m_20 m_30 m_40 m_50 m_60 m_70:Int}{m_80:(List TEntry)}{m_90 ze zg:Int}{zf:(List Int)}{zh:(List Bool)}{zc zi:(List Int)}{zj:(List TMsg)}(h:zgy zq to0 m_00 m_10 m_20 m_30 m_40 m_50 m_60 m_70 m_80 m_90 ze zg zf zh zc zi zj=some r):LWp Pg 24 6 i50_L0 ⟨[(0,.ptr 0 0),(1,.fn (.func 51) [.ptr 0 0] []),(4,.int .i64 to0),(11,.bad),(20,.bad)],[],(zji m_00 m_10 m_20 m_30 m_40 m_50 m_60 m_70 m_80 m_90 zf zh zc zi ze zg zj),7⟩ (blockQ 0 (qf_50_v1 r)):=by
  unfold zgy at h
  refine LWp.stepC i50_L0.eq_1 ?_
  refine Wp.seq (Wp.seq (regP (seqN ?_)))
  replace h:=ifS h; rcases h with ⟨g1,h⟩ | ⟨g1,h⟩
  ·refine condTP (Wp.skip (seqN (Wp.seq (Wp.block (Wp.seq ?_)))))
   refine regP (seqN ?_)
   replace h:=ifS h; rcases h with ⟨g2,h⟩ | ⟨g2,h⟩
   ·refine condTP (Wp.reg ?_)
    replace h:=bndS h; obtain ⟨r0,g3,h⟩:=h
    refine lastF (tab_cons (zie g3) (tab_nil _)) (blockN (seqN ?_))
    exact jumpK [.kill [11,20],.tidy] (zjy zdu h)
   ·refine condFP (Wp.skip (blockN (seqN ?_)))
    exact jumpK [.kill [11,20]] (zjy zdu h)
  ·replace h:=retS h; subst h
   refine condFP (Wp.out (seqO (loopO (blockO ?_))))
   exact finW [.kill [0,1,4,11],.tidy]
theorem znh {r:Tmember}:∀ (n:Nat),zhf (zcf n) r:=by
  intro n
  induction n with
  | zero=>intro to0 m_00 m_10 m_20 m_30 m_40 m_50 m_60 m_70 m_80 m_90 ze zg zf zh zc zi zj h; unfold zcf at h; cases h
  | succ n ih=>intro to0 m_00 m_10 m_20 m_30 m_40 m_50 m_60 m_70 m_80 m_90 ze zg zf zh zc zi zj h; unfold zcf at h; exact zmn ih h
theorem zoq{m:Tmember}{r:Tmember} (h:zfg m=some r):Spec Pg 50 [.ptr 0 0,.fn (.func 51) [.ptr 0 0] []] (hp82 m.Raft.Id m.Raft.N m.Raft.Term m.Raft.Vote m.Raft.Role m.Raft.Lead m.Raft.Log.Base m.Raft.Log.BaseTerm m.Raft.Log.Entries m.Raft.Commit m.Raft.Snap m.Raft.Granted m.Raft.Next m.Raft.Match m.Raft.Clock m.Raft.Wait m.f_out) 6 (.tup []) (zji r.Raft.Id r.Raft.N r.Raft.Term r.Raft.Vote r.Raft.Role r.Raft.Lead r.Raft.Log.Base r.Raft.Log.BaseTerm r.Raft.Log.Entries r.Raft.Commit r.Raft.Snap r.Raft.Granted r.Raft.Next r.Raft.Match r.Raft.Clock r.Raft.Wait r.f_out) 7:=by
  refine Spec.intro Go.Proofs.Try.func50 i50_ok (le_of_ble rfl) ?_
  show Wp Pg 24 6 i50_B ⟨argEnv _ i50_V,[],_,_⟩ (qf_50_v1 r)
  unfold zfg at h
  unfold i50_B
  refine weakP [.movc 0 16] ?_
  refine Wp.seq (regP (seqN (Wp.block (Wp.loop ?_))))
  exact jumpL [.kill [11,20],.cell 0 12 (.virt 1),.cell 0 13 (.virt 1),.tidy] (znh _ h)
noncomputable abbrev qf_76_v2(r:Tmember):Ex→St→Prop:=FinQ 7 [] (.tup []) (zsu r.Raft.Id r.Raft.N r.Raft.Term r.Raft.Vote r.Raft.Role r.Raft.Lead r.Raft.Log.Base r.Raft.Log.BaseTerm r.Raft.Log.Entries r.Raft.Commit r.Raft.Snap r.Raft.Granted r.Raft.Next r.Raft.Match r.Raft.Clock r.Raft.Wait r.f_out) 8
theorem zkt{to0:Int}{x0:TMsg}{m:Tmember}{r:Tmember} (h:zcz to0 x0 m=some r):Spec Pg 76 [.ptr 0 0,.int .i64 to0,.agg [.int .i64 x0.Kind,.int .i64 x0.Group,.int .i64 x0.From,.int .i64 x0.To,.int .i64 x0.Term,.int .i64 x0.At,.int .i64 x0.AtTerm,.int .i64 x0.Commit,.bool x0.Ok,.nil,.nil]] (hp80 m.Raft.Id m.Raft.N m.Raft.Term m.Raft.Vote m.Raft.Role m.Raft.Lead m.Raft.Log.Base m.Raft.Log.BaseTerm m.Raft.Log.Entries m.Raft.Commit m.Raft.Snap m.Raft.Granted m.Raft.Next m.Raft.Match m.Raft.Clock m.Raft.Wait m.f_out) 7 (.tup []) (zsu r.Raft.Id r.Raft.N r.Raft.Term r.Raft.Vote r.Raft.Role r.Raft.Lead r.Raft.Log.Base r.Raft.Log.BaseTerm r.Raft.Log.Entries r.Raft.Commit r.Raft.Snap r.Raft.Granted r.Raft.Next r.Raft.Match r.Raft.Clock r.Raft.Wait r.f_out) 8:=by
  refine Spec.intro Go.Proofs.Try.func76 i76_ok (le_of_ble rfl) ?_
  show Wp Pg 24 7 i76_B ⟨argEnv _ i76_V,[],_,_⟩ (qf_76_v2 r)
  unfold zcz at h
  unfold i76_B
  refine weakP [.movc 0 16] ?_
  refine Wp.seq (regP (seqN (Wp.seq ?_)))
  refine regP (seqN ?_)
  replace h:=reqS h; obtain ⟨g1,h⟩:=h
  replace h:=retS h; subst h
  refine drawP [] mixed (clsN _) ?_
  exact finW [.kill [0,1,2,5],.tidy]
noncomputable abbrev qf_32(r:Int):Ex→St→Prop:=FinQ 0 [.tmp 2] (.int .i64 r) [] 0
theorem ziu{l:TLog}{r:Int} (h:zee l=some r):Spec Pg 32 [.agg [.int .i64 l.Base,.int .i64 l.BaseTerm,sl TEntry.c l.Entries]] [] 0 (.int .i64 r) [] 0:=by
  refine Spec.intro Go.Proofs.Try.func32 i32_ok (le_of_ble rfl) ?_
  show Wp Pg 13 0 i32_B ⟨argEnv _ i32_V,[],_,_⟩ (qf_32 r)
  unfold zee at h
  unfold i32_B
  refine weakP [] ?_
  refine Wp.seq (regP (seqN (Wp.seq ?_)))
  replace h:=bndS h; obtain ⟨r0,g1,h⟩:=h
  replace h:=bndS h; obtain ⟨r0_1,g2,h⟩:=h
  replace h:=retS h; subst h
  refine drawP [] mixed (clsC 2 (tab_cons (zbh g1) (tab_nil _)) (clsC 3 (tab_cons (zcp g2) (tab_nil _)) (clsN _))) (seqN (Wp.seq ?_))
  refine regP (seqN (Wp.ret ?_))
  exact finP
noncomputable abbrev qf_83_v0(r:Tmember):Ex→St→Prop:=FinQ 8 [] (.tup []) (zrx r.Raft.Id r.Raft.N r.Raft.Term r.Raft.Vote r.Raft.Role r.Raft.Lead r.Raft.Log.Base r.Raft.Log.BaseTerm r.Raft.Log.Entries r.Raft.Commit r.Raft.Snap r.Raft.Granted r.Raft.Next r.Raft.Match r.Raft.Clock r.Raft.Wait r.f_out) 9
theorem zob{to0:Int}{b1:Tmember}{r:Tmember} (h:zda to0 b1=some r):Spec Pg 83 [.int .i64 to0,.ptr 0 0] (zsv b1.Raft.Id b1.Raft.N b1.Raft.Term b1.Raft.Vote b1.Raft.Role b1.Raft.Lead b1.Raft.Log.Base b1.Raft.Log.BaseTerm b1.Raft.Log.Entries b1.Raft.Commit b1.Raft.Snap b1.Raft.Granted b1.Raft.Next b1.Raft.Match b1.Raft.Clock b1.Raft.Wait b1.f_out) 8 (.tup []) (zrx r.Raft.Id r.Raft.N r.Raft.Term r.Raft.Vote r.Raft.Role r.Raft.Lead r.Raft.Log.Base r.Raft.Log.BaseTerm r.Raft.Log.Entries r.Raft.Commit r.Raft.Snap r.Raft.Granted r.Raft.Next r.Raft.Match r.Raft.Clock r.Raft.Wait r.f_out) 9:=by
  refine Spec.intro Go.Proofs.Try.func83 i83_ok (le_of_ble rfl) ?_
  show Wp Pg 24 8 i83_B ⟨argEnv _ i83_V,[],_,_⟩ (qf_83_v0 r)
  unfold zda at h
  unfold i83_B
  refine weakP [] ?_
  replace h:=bndS h; obtain ⟨r0,g1,h⟩:=h
  replace h:=bndS h; obtain ⟨r0_1,g2,h⟩:=h
  replace h:=bndS h; obtain ⟨r0_2,g3,h⟩:=h
  replace h:=retS h; subst h
  refine drawP [76] mixed (clsC 12 (tab_cons (zbh g1) (tab_nil _)) (clsC 18 (tab_cons (ziu g2) (tab_nil _)) (clsC 20 (tab_cons (zkt g3) (tab_nil _)) (clsN _)))) ?_
  exact finW [.kill [0,1],.tidy]
noncomputable abbrev qf_50_v2(r:Tmember):Ex→St→Prop:=FinQ 8 [] (.tup []) (zry r.Raft.Id r.Raft.N r.Raft.Term r.Raft.Vote r.Raft.Role r.Raft.Lead r.Raft.Log.Base r.Raft.Log.BaseTerm r.Raft.Log.Entries r.Raft.Commit r.Raft.Snap r.Raft.Granted r.Raft.Next r.Raft.Match r.Raft.Clock r.Raft.Wait r.f_out) 9
noncomputable abbrev zhg (rec0:Int→Int→Int→Int→Int→Int→Int→Int→Int→Int→Int→Int→(List TEntry)→(List Int)→(List Bool)→(List Int)→(List Int)→(List TMsg)→Option Tmember)(r:Tmember):Prop:=∀ {to0 m_00 m_10 m_20 m_30 m_40 m_50 m_60 m_70 m_90 ze zg:Int} {m_80:(List TEntry)} {zf:(List Int)} {zh:(List Bool)} {zc zi:(List Int)} {zj:(List TMsg)},rec0 to0 m_00 m_10 m_20 m_30 m_40 m_50 m_60 m_70 m_90 ze zg m_80 zf zh zc zi zj=some r→LWp Pg 24 8 i50_L0 ⟨[(0,.ptr 0 0),(1,.fn (.func 83) [] [.ptr 7 0]),(4,.int .i64 to0),(11,.bad),(20,.bad)],[],(zpl m_00 m_10 m_20 m_30 m_40 m_50 m_60 m_70 m_80 m_90 zf zh zc zi ze zg zj),9⟩ (blockQ 0 (qf_50_v2 r))
theorem zjz{to0 zbl zbm zbn zbo zbp zbq zbr zbs zbu zao zap:Int}{zbt:(List TEntry)}{zaq:(List Int)}{zar:(List Bool)}{zx zas:(List Int)}{zat:(List TMsg)}{r:Tmember}{zr:Int→Int→Int→Int→Int→Int→Int→Int→Int→Int→Int→Int→(List TEntry)→(List Int)→(List Bool)→(List Int)→(List Int)→(List TMsg)→Option Tmember}(zdv:zhg zr r)(h:zfs zr to0 zbl zbm zbn zbo zbp zbq zbr zbs zbu zao zap zbt zaq zar zx zas zat=some r):Wp Pg 24 8 (.reg none i50_R4) ⟨[(0,.ptr 0 0),(1,.fn (.func 83) [] [.ptr 7 0]),(4,.int .i64 to0),(11,.bad),(20,.bad)],[],(zpl zbl zbm zbn zbo zbp zbq zbr zbs zbt zbu zaq zar zx zas zao zap zat),9⟩ (loopQ Pg 24 8 i50_L0 (blockQ 0 (qf_50_v2 r))):=by
  unfold zfs at h
  refine regP (loopN ?_)
  exact jumpL [] (zdv h)
theorem zmo {r:Tmember} {zr:Int→Int→Int→Int→Int→Int→Int→Int→Int→Int→Int→Int→(List TEntry)→(List Int)→(List Bool)→(List Int)→(List Int)→(List TMsg)→Option Tmember}(zdv:zhg zr r){to0 m_00 m_10 m_20 m_30 m_40 m_50 m_60 m_70 m_90 ze zg:Int}{m_80:(List TEntry)}{zf:(List Int)}{zh:(List Bool)}{zc zi:(List Int)}{zj:(List TMsg)}(h:zgz zr to0 m_00 m_10 m_20 m_30 m_40 m_50 m_60 m_70 m_90 ze zg m_80 zf zh zc zi zj=some r):LWp Pg 24 8 i50_L0 ⟨[(0,.ptr 0 0),(1,.fn (.func 83) [] [.ptr 7 0]),(4,.int .i64 to0),(11,.bad),(20,.bad)],[],(zpl m_00 m_10 m_20 m_30 m_40 m_50 m_60 m_70 m_80 m_90 zf zh zc zi ze zg zj),9⟩ (blockQ 0 (qf_50_v2 r)):=by
  unfold zgz at h
  refine LWp.stepC i50_L0.eq_1 ?_
  refine Wp.seq (Wp.seq (regP (seqN ?_)))
  replace h:=ifS h; rcases h with ⟨g1,h⟩ | ⟨g1,h⟩
  ·refine condTP (Wp.skip (seqN (Wp.seq (Wp.block (Wp.seq ?_)))))
   refine regP (seqN ?_)
   replace h:=ifS h; rcases h with ⟨g2,h⟩ | ⟨g2,h⟩
   ·refine condTP (Wp.reg ?_)
    replace h:=bndS h; obtain ⟨r0,g3,h⟩:=h
    refine lastF (tab_cons (zob g3) (tab_nil _)) (blockN (seqN ?_))
    exact jumpK [.kill [11,20],.tidy] (zjz zdv h)
   ·refine condFP (Wp.skip (blockN (seqN ?_)))
    exact jumpK [.kill [11,20]] (zjz zdv h)
  ·replace h:=retS h; subst h
   refine condFP (Wp.out (seqO (loopO (blockO ?_))))
   exact finW [.cell 0 11 (.virt 1),.kill [0,1,4,11],.tidy]
theorem zni {r:Tmember}:∀ (n:Nat),zhg (zcg n) r:=by
  intro n
  induction n with
  | zero=>intro to0 m_00 m_10 m_20 m_30 m_40 m_50 m_60 m_70 m_90 ze zg m_80 zf zh zc zi zj h; unfold zcg at h; cases h
  | succ n ih=>intro to0 m_00 m_10 m_20 m_30 m_40 m_50 m_60 m_70 m_90 ze zg m_80 zf zh zc zi zj h; unfold zcg at h; exact zmo ih h
theorem zlh{m:Tmember}{r:Tmember} (h:zfh m=some r):Spec Pg 50 [.ptr 0 0,.fn (.func 83) [] [.ptr 7 0]] (zsq m.Raft.Id m.Raft.N m.Raft.Term m.Raft.Vote m.Raft.Role m.Raft.Lead m.Raft.Log.Base m.Raft.Log.BaseTerm m.Raft.Log.Entries m.Raft.Commit m.Raft.Snap m.Raft.Granted m.Raft.Next m.Raft.Match m.Raft.Clock m.Raft.Wait m.f_out) 8 (.tup []) (zry r.Raft.Id r.Raft.N r.Raft.Term r.Raft.Vote r.Raft.Role r.Raft.Lead r.Raft.Log.Base r.Raft.Log.BaseTerm r.Raft.Log.Entries r.Raft.Commit r.Raft.Snap r.Raft.Granted r.Raft.Next r.Raft.Match r.Raft.Clock r.Raft.Wait r.f_out) 9:=by
  refine Spec.intro Go.Proofs.Try.func50 i50_ok (le_of_ble rfl) ?_
  show Wp Pg 24 8 i50_B ⟨argEnv _ i50_V,[],_,_⟩ (qf_50_v2 r)
  unfold zfh at h
  unfold i50_B
  refine weakP [.movc 0 16] ?_
  refine Wp.seq (regP (seqN (Wp.block (Wp.loop ?_))))
  exact jumpL [.kill [11,20],.tidy] (zni _ h)
noncomputable abbrev qf_78_v0(r:Tmember):Ex→St→Prop:=FinQ 8 [] (.tup []) (zrx r.Raft.Id r.Raft.N r.Raft.Term r.Raft.Vote r.Raft.Role r.Raft.Lead r.Raft.Log.Base r.Raft.Log.BaseTerm r.Raft.Log.Entries r.Raft.Commit r.Raft.Snap r.Raft.Granted r.Raft.Next r.Raft.Match r.Raft.Clock r.Raft.Wait r.f_out) 9
theorem zpe{to0:Int}{b1:Tmember}{r:Tmember} (h:zej to0 b1=some r):Spec Pg 78 [.int .i64 to0,.ptr 0 0] (zsv b1.Raft.Id b1.Raft.N b1.Raft.Term b1.Raft.Vote b1.Raft.Role b1.Raft.Lead b1.Raft.Log.Base b1.Raft.Log.BaseTerm b1.Raft.Log.Entries b1.Raft.Commit b1.Raft.Snap b1.Raft.Granted b1.Raft.Next b1.Raft.Match b1.Raft.Clock b1.Raft.Wait b1.f_out) 8 (.tup []) (zrx r.Raft.Id r.Raft.N r.Raft.Term r.Raft.Vote r.Raft.Role r.Raft.Lead r.Raft.Log.Base r.Raft.Log.BaseTerm r.Raft.Log.Entries r.Raft.Commit r.Raft.Snap r.Raft.Granted r.Raft.Next r.Raft.Match r.Raft.Clock r.Raft.Wait r.f_out) 9:=by
  refine Spec.intro Go.Proofs.Try.func78 i78_ok (le_of_ble rfl) ?_
  show Wp Pg 25 8 i78_B ⟨argEnv _ i78_V,[],_,_⟩ (qf_78_v0 r)
  unfold zej at h
  unfold i78_B
  refine weakP [] ?_
  replace h:=bndS h; obtain ⟨r0,g1,h⟩:=h
  replace h:=bndS h; obtain ⟨r0_1,g2,h⟩:=h
  replace h:=bndS h; obtain ⟨r0_2,g3,h⟩:=h
  replace h:=retS h; subst h
  refine drawP [76] mixed (clsC 13 (tab_cons (zbh g1) (tab_nil _)) (clsC 19 (tab_cons (ziu g2) (tab_nil _)) (clsC 21 (tab_cons (zkt g3) (tab_nil _)) (clsN _)))) ?_
  exact finW [.kill [0,1],.tidy]
noncomputable abbrev qf_50_v3(r:Tmember):Ex→St→Prop:=FinQ 8 [] (.tup []) (zry r.Raft.Id r.Raft.N r.Raft.Term r.Raft.Vote r.Raft.Role r.Raft.Lead r.Raft.Log.Base r.Raft.Log.BaseTerm r.Raft.Log.Entries r.Raft.Commit r.Raft.Snap r.Raft.Granted r.Raft.Next r.Raft.Match r.Raft.Clock r.Raft.Wait r.f_out) 9
noncomputable abbrev zhh (rec0:Int→Int→Int→Int→Int→Int→Int→Int→Int→Int→Int→Int→(List TEntry)→(List Int)→(List Bool)→(List Int)→(List Int)→(List TMsg)→Option Tmember)(r:Tmember):Prop:=∀ {to0 m_00 m_10 m_20 m_30 m_40 m_50 m_60 m_70 m_90 ze zg:Int} {m_80:(List TEntry)} {zf:(List Int)} {zh:(List Bool)} {zc zi:(List Int)} {zj:(List TMsg)},rec0 to0 m_00 m_10 m_20 m_30 m_40 m_50 m_60 m_70 m_90 ze zg m_80 zf zh zc zi zj=some r→LWp Pg 24 8 i50_L0 ⟨[(0,.ptr 0 0),(1,.fn (.func 78) [] [.ptr 7 0]),(4,.int .i64 to0),(11,.bad),(20,.bad)],[],(zpl m_00 m_10 m_20 m_30 m_40 m_50 m_60 m_70 m_80 m_90 zf zh zc zi ze zg zj),9⟩ (blockQ 0 (qf_50_v3 r))
theorem zka{to0 zbl zbm zbn zbo zbp zbq zbr zbs zbu zao zap:Int}{zbt:(List TEntry)}{zaq:(List Int)}{zar:(List Bool)}{zx zas:(List Int)}{zat:(List TMsg)}{r:Tmember}{zt:Int→Int→Int→Int→Int→Int→Int→Int→Int→Int→Int→Int→(List TEntry)→(List Int)→(List Bool)→(List Int)→(List Int)→(List TMsg)→Option Tmember}(zdw:zhh zt r)(h:zft zt to0 zbl zbm zbn zbo zbp zbq zbr zbs zbu zao zap zbt zaq zar zx zas zat=some r):Wp Pg 24 8 (.reg none i50_R4) ⟨[(0,.ptr 0 0),(1,.fn (.func 78) [] [.ptr 7 0]),(4,.int .i64 to0),(11,.bad),(20,.bad)],[],(zpl zbl zbm zbn zbo zbp zbq zbr zbs zbt zbu zaq zar zx zas zao zap zat),9⟩ (loopQ Pg 24 8 i50_L0 (blockQ 0 (qf_50_v3 r))):=by
  unfold zft at h
  refine regP (loopN ?_)
  exact jumpL [] (zdw h)
theorem zmp {r:Tmember} {zt:Int→Int→Int→Int→Int→Int→Int→Int→Int→Int→Int→Int→(List TEntry)→(List Int)→(List Bool)→(List Int)→(List Int)→(List TMsg)→Option Tmember}(zdw:zhh zt r){to0 m_00 m_10 m_20 m_30 m_40 m_50 m_60 m_70 m_90 ze zg:Int}{m_80:(List TEntry)}{zf:(List Int)}{zh:(List Bool)}{zc zi:(List Int)}{zj:(List TMsg)}(h:zha zt to0 m_00 m_10 m_20 m_30 m_40 m_50 m_60 m_70 m_90 ze zg m_80 zf zh zc zi zj=some r):LWp Pg 24 8 i50_L0 ⟨[(0,.ptr 0 0),(1,.fn (.func 78) [] [.ptr 7 0]),(4,.int .i64 to0),(11,.bad),(20,.bad)],[],(zpl m_00 m_10 m_20 m_30 m_40 m_50 m_60 m_70 m_80 m_90 zf zh zc zi ze zg zj),9⟩ (blockQ 0 (qf_50_v3 r)):=by
  unfold zha at h
  refine LWp.stepC i50_L0.eq_1 ?_
  refine Wp.seq (Wp.seq (regP (seqN ?_)))
  replace h:=ifS h; rcases h with ⟨g1,h⟩ | ⟨g1,h⟩
  ·refine condTP (Wp.skip (seqN (Wp.seq (Wp.block (Wp.seq ?_)))))
   refine regP (seqN ?_)
   replace h:=ifS h; rcases h with ⟨g2,h⟩ | ⟨g2,h⟩
   ·refine condTP (Wp.reg ?_)
    replace h:=bndS h; obtain ⟨r0,g3,h⟩:=h
    refine lastF (tab_cons (zpe g3) (tab_nil _)) (blockN (seqN ?_))
    exact jumpK [.kill [11,20],.tidy] (zka zdw h)
   ·refine condFP (Wp.skip (blockN (seqN ?_)))
    exact jumpK [.kill [11,20]] (zka zdw h)
  ·replace h:=retS h; subst h
   refine condFP (Wp.out (seqO (loopO (blockO ?_))))
   exact finW [.cell 0 11 (.virt 1),.kill [0,1,4,11],.tidy]
theorem znj {r:Tmember}:∀ (n:Nat),zhh (zch n) r:=by
  intro n
  induction n with
  | zero=>intro to0 m_00 m_10 m_20 m_30 m_40 m_50 m_60 m_70 m_90 ze zg m_80 zf zh zc zi zj h; unfold zch at h; cases h
  | succ n ih=>intro to0 m_00 m_10 m_20 m_30 m_40 m_50 m_60 m_70 m_90 ze zg m_80 zf zh zc zi zj h; unfold zch at h; exact zmp ih h
theorem zor{m:Tmember}{r:Tmember} (h:zhb m=some r):Spec Pg 50 [.ptr 0 0,.fn (.func 78) [] [.ptr 7 0]] (zsq m.Raft.Id m.Raft.N m.Raft.Term m.Raft.Vote m.Raft.Role m.Raft.Lead m.Raft.Log.Base m.Raft.Log.BaseTerm m.Raft.Log.Entries m.Raft.Commit m.Raft.Snap m.Raft.Granted m.Raft.Next m.Raft.Match m.Raft.Clock m.Raft.Wait m.f_out) 8 (.tup []) (zry r.Raft.Id r.Raft.N r.Raft.Term r.Raft.Vote r.Raft.Role r.Raft.Lead r.Raft.Log.Base r.Raft.Log.BaseTerm r.Raft.Log.Entries r.Raft.Commit r.Raft.Snap r.Raft.Granted r.Raft.Next r.Raft.Match r.Raft.Clock r.Raft.Wait r.f_out) 9:=by
  refine Spec.intro Go.Proofs.Try.func50 i50_ok (le_of_ble rfl) ?_
  show Wp Pg 24 8 i50_B ⟨argEnv _ i50_V,[],_,_⟩ (qf_50_v3 r)
  unfold zhb at h
  unfold i50_B
  refine weakP [.movc 0 16] ?_
  refine Wp.seq (regP (seqN (Wp.block (Wp.loop ?_))))
  exact jumpL [.kill [11,20],.tidy] (znj _ h)
noncomputable abbrev qf_50_v4(r:Tmember):Ex→St→Prop:=FinQ 6 [] (.tup []) (zji r.Raft.Id r.Raft.N r.Raft.Term r.Raft.Vote r.Raft.Role r.Raft.Lead r.Raft.Log.Base r.Raft.Log.BaseTerm r.Raft.Log.Entries r.Raft.Commit r.Raft.Snap r.Raft.Granted r.Raft.Next r.Raft.Match r.Raft.Clock r.Raft.Wait r.f_out) 7
noncomputable abbrev zhi (rec0:Int→Int→Int→Int→Int→Int→Int→Int→Int→(List TEntry)→Int→Int→Int→(List Int)→(List Bool)→(List Int)→(List Int)→(List TMsg)→Option Tmember)(r:Tmember):Prop:=∀ {to0 m_00 m_10 m_20 m_30 m_40 m_50 m_60 m_70:Int} {m_80:(List TEntry)} {m_90 ze zg:Int} {zf:(List Int)} {zh:(List Bool)} {zc zi:(List Int)} {zj:(List TMsg)},rec0 to0 m_00 m_10 m_20 m_30 m_40 m_50 m_60 m_70 m_80 m_90 ze zg zf zh zc zi zj=some r→LWp Pg 24 6 i50_L0 ⟨[(0,.ptr 0 0),(1,.fn (.func 51) [.ptr 0 0] []),(4,.int .i64 to0),(11,.bad),(20,.bad)],[],(zji m_00 m_10 m_20 m_30 m_40 m_50 m_60 m_70 m_80 m_90 zf zh zc zi ze zg zj),7⟩ (blockQ 0 (qf_50_v4 r))
theorem zkb{to0 zbl zbm zbn zbo zbp zbq zbr zbs:Int}{zbt:(List TEntry)}{zbu zao zap:Int}{zaq:(List Int)}{zar:(List Bool)}{zx zas:(List Int)}{zat:(List TMsg)}{r:Tmember}{zu:Int→Int→Int→Int→Int→Int→Int→Int→Int→(List TEntry)→Int→Int→Int→(List Int)→(List Bool)→(List Int)→(List Int)→(List TMsg)→Option Tmember}(zdx:zhi zu r)(h:zfu zu to0 zbl zbm zbn zbo zbp zbq zbr zbs zbt zbu zao zap zaq zar zx zas zat=some r):Wp Pg 24 6 (.reg none i50_R4) ⟨[(0,.ptr 0 0),(1,.fn (.func 51) [.ptr 0 0] []),(4,.int .i64 to0),(11,.bad),(20,.bad)],[],(zji zbl zbm zbn zbo zbp zbq zbr zbs zbt zbu zaq zar zx zas zao zap zat),7⟩ (loopQ Pg 24 6 i50_L0 (blockQ 0 (qf_50_v4 r))):=by
  unfold zfu at h
  refine regP (loopN ?_)
  exact jumpL [] (zdx h)
theorem zmq {r:Tmember} {zu:Int→Int→Int→Int→Int→Int→Int→Int→Int→(List TEntry)→Int→Int→Int→(List Int)→(List Bool)→(List Int)→(List Int)→(List TMsg)→Option Tmember}(zdx:zhi zu r){to0 m_00 m_10 m_20 m_30 m_40 m_50 m_60 m_70:Int}{m_80:(List TEntry)}{m_90 ze zg:Int}{zf:(List Int)}{zh:(List Bool)}{zc zi:(List Int)}{zj:(List TMsg)}(h:zhc zu to0 m_00 m_10 m_20 m_30 m_40 m_50 m_60 m_70 m_80 m_90 ze zg zf zh zc zi zj=some r):LWp Pg 24 6 i50_L0 ⟨[(0,.ptr 0 0),(1,.fn (.func 51) [.ptr 0 0] []),(4,.int .i64 to0),(11,.bad),(20,.bad)],[],(zji m_00 m_10 m_20 m_30 m_40 m_50 m_60 m_70 m_80 m_90 zf zh zc zi ze zg zj),7⟩ (blockQ 0 (qf_50_v4 r)):=by
  unfold zhc at h
  refine LWp.stepC i50_L0.eq_1 ?_
  refine Wp.seq (Wp.seq (regP (seqN ?_)))
  replace h:=ifS h; rcases h with ⟨g1,h⟩ | ⟨g1,h⟩
  ·refine condTP (Wp.skip (seqN (Wp.seq (Wp.block (Wp.seq ?_)))))
   refine regP (seqN ?_)
   replace h:=ifS h; rcases h with ⟨g2,h⟩ | ⟨g2,h⟩
   ·refine condTP (Wp.reg ?_)
    replace h:=bndS h; obtain ⟨r0,g3,h⟩:=h
    refine lastF (tab_cons (zie g3) (tab_nil _)) (blockN (seqN ?_))
    exact jumpK [.kill [11,20],.tidy] (zkb zdx h)
   ·refine condFP (Wp.skip (blockN (seqN ?_)))
    exact jumpK [.kill [11,20]] (zkb zdx h)
  ·replace h:=retS h; subst h
   refine condFP (Wp.out (seqO (loopO (blockO ?_))))
   exact finW [.kill [0,1,4,11],.tidy]
theorem znk {r:Tmember}:∀ (n:Nat),zhi (zci n) r:=by
  intro n
  induction n with
  | zero=>intro to0 m_00 m_10 m_20 m_30 m_40 m_50 m_60 m_70 m_80 m_90 ze zg zf zh zc zi zj h; unfold zci at h; cases h
  | succ n ih=>intro to0 m_00 m_10 m_20 m_30 m_40 m_50 m_60 m_70 m_80 m_90 ze zg zf zh zc zi zj h; unfold zci at h; exact zmq ih h
theorem zos{m:Tmember}{r:Tmember} (h:zfi m=some r):Spec Pg 50 [.ptr 0 0,.fn (.func 51) [.ptr 0 0] []] (zng m.Raft.Id m.Raft.N m.Raft.Term m.Raft.Vote m.Raft.Role m.Raft.Lead m.Raft.Log.Base m.Raft.Log.BaseTerm m.Raft.Log.Entries m.Raft.Commit m.Raft.Snap m.Raft.Granted m.Raft.Next m.Raft.Match m.Raft.Clock m.Raft.Wait m.f_out) 6 (.tup []) (zji r.Raft.Id r.Raft.N r.Raft.Term r.Raft.Vote r.Raft.Role r.Raft.Lead r.Raft.Log.Base r.Raft.Log.BaseTerm r.Raft.Log.Entries r.Raft.Commit r.Raft.Snap r.Raft.Granted r.Raft.Next r.Raft.Match r.Raft.Clock r.Raft.Wait r.f_out) 7:=by
  refine Spec.intro Go.Proofs.Try.func50 i50_ok (le_of_ble rfl) ?_
  show Wp Pg 24 6 i50_B ⟨argEnv _ i50_V,[],_,_⟩ (qf_50_v4 r)
  unfold zfi at h
  unfold i50_B
  refine weakP [.movc 0 16] ?_
  refine Wp.seq (regP (seqN (Wp.block (Wp.loop ?_))))
  exact jumpL [.kill [11,20],.tidy] (znk _ h)
noncomputable abbrev qf_51_v0(r:Tmember):Ex→St→Prop:=FinQ 7 [] (.tup []) (hp59 r.Raft.Id r.Raft.N r.Raft.Term r.Raft.Vote r.Raft.Role r.Raft.Lead r.Raft.Log.Base r.Raft.Log.BaseTerm r.Raft.Log.Entries r.Raft.Commit r.Raft.Snap r.Raft.Granted r.Raft.Next r.Raft.Match r.Raft.Clock r.Raft.Wait r.f_out) 8
theorem zku{to0:Int}{m:Tmember}{x_0 x_5 x_6:Int}{x_9:(List TEntry)}{x_10:(List Int)}{r:Tmember} (h:zgj to0 m x_0 x_5 x_6 x_9 x_10=some r):Wp Pg 84 7 (.reg none i51_R7) ⟨[(0,.ptr 0 0),(1,.int .i64 to0),(4,.bad),(5,.ptr 8 0),(33,.bad)],[],(hp53 m.Raft.Id m.Raft.N m.Raft.Term m.Raft.Vote m.Raft.Role m.Raft.Lead m.Raft.Log.Base m.Raft.Log.BaseTerm m.Raft.Log.Entries m.Raft.Commit m.Raft.Snap m.Raft.Granted m.Raft.Next m.Raft.Match m.Raft.Clock m.Raft.Wait m.f_out x_0 (0:Int) (0:Int) (0:Int) m.Raft.Term x_5 x_6 m.Raft.Commit x_9 x_10 m.Raft.Log.Entries),10⟩ (qf_51_v0 r):=by
  unfold zgj at h
  refine Wp.reg ?_
  replace h:=bndS h; obtain ⟨r0_2,g6,h⟩:=h
  replace h:=retS h; subst h
  refine lastF (tab_cons (zlu g6) (tab_nil _)) ?_
  exact finW [.kill [0,1,5],.drop [1],.tidy]
theorem zpo{to0:Int}{m:Tmember}{r:Tmember} (h:zeu to0 m=some r):Spec Pg 51 [.ptr 0 0,.int .i64 to0] (hp30 m.Raft.Id m.Raft.N m.Raft.Term m.Raft.Vote m.Raft.Role m.Raft.Lead m.Raft.Log.Base m.Raft.Log.BaseTerm m.Raft.Log.Entries m.Raft.Commit m.Raft.Snap m.Raft.Granted m.Raft.Next m.Raft.Match m.Raft.Clock m.Raft.Wait m.f_out) 7 (.tup []) (hp59 r.Raft.Id r.Raft.N r.Raft.Term r.Raft.Vote r.Raft.Role r.Raft.Lead r.Raft.Log.Base r.Raft.Log.BaseTerm r.Raft.Log.Entries r.Raft.Commit r.Raft.Snap r.Raft.Granted r.Raft.Next r.Raft.Match r.Raft.Clock r.Raft.Wait r.f_out) 8:=by
  refine Spec.intro Go.Proofs.Try.func51 i51_ok (le_of_ble rfl) ?_
  show Wp Pg 84 7 i51_B ⟨argEnv _ i51_V,[],_,_⟩ (qf_51_v0 r)
  unfold zeu at h
  unfold i51_B
  refine weakP [.movc 0 16] ?_
  refine Wp.seq ?_
  replace h:=bndS h; obtain ⟨e,g1,h⟩:=h
  have:=ias_ownL (n:=1) (id:=4) (ex:=false) (k:=.i64) g1 rfl
  have:=ld_get (c:=(ci .i64)) g1
  refine regP (seqN (Wp.seq ?_))
  refine drawP [] mixed (clsN _) (seqN (Wp.seq (Wp.seq ?_)))
  refine regP (seqN ?_)
  replace h:=ifS h; rcases h with ⟨g2,h⟩ | ⟨g2,h⟩
  ·refine condTP ?_
   replace h:=reqS h; obtain ⟨g3,h⟩:=h
   refine drawP [] mixed (clsN _) (seqN ?_)
   exact jumpK [.kill [4,33],.cell 5 9 .frz,.cell 0 8 .frz,.tidy] (zku h)
  ·refine condFP (Wp.seq ?_)
   refine regP (seqN (Wp.seq ?_))
   replace h:=bndS h; obtain ⟨r0,g4,h⟩:=h
   refine drawP [] mixed (clsC 7 (tab_cons (zcp g4) (tab_nil _)) (clsN _)) (seqN (Wp.reg ?_))
   replace h:=bndS h; obtain ⟨r0_1,g5,h⟩:=h
   refine chunkT 7 (tab_cons (zpu g5) (tab_nil _)) ?_
   refine lastT (tab_nil _) (seqN ?_)
   exact jumpK [.kill [4,33],.cell 5 10 (.virt 1),.cell 0 8 .frz,.tidy] (zku h)
noncomputable abbrev qf_66_v0(r:Tmember):Ex→St→Prop:=FinQ 7 [] (.tup []) (zrz r.Raft.Id r.Raft.N r.Raft.Term r.Raft.Vote r.Raft.Role r.Raft.Lead r.Raft.Log.Base r.Raft.Log.BaseTerm r.Raft.Log.Entries r.Raft.Commit r.Raft.Snap r.Raft.Granted r.Raft.Next r.Raft.Match r.Raft.Clock r.Raft.Wait r.f_out) 10
theorem zkc{lead:Int}{m:Tmember}{m_20 m_30:Int}{r:Tmember} (h:zdy lead m m_20 m_30=some r):Wp Pg 43 7 (.seq (.reg none i66_R2) (.reg none i66_R3)) ⟨[(0,.ptr 0 0),(1,.bad),(2,.int .i64 lead),(12,.bad)],[],(hp30 m.Raft.Id m.Raft.N m_20 m_30 m.Raft.Role m.Raft.Lead m.Raft.Log.Base m.Raft.Log.BaseTerm m.Raft.Log.Entries m.Raft.Commit m.Raft.Snap m.Raft.Granted m.Raft.Next m.Raft.Match m.Raft.Clock m.Raft.Wait m.f_out),7⟩ (qf_66_v0 r):=by
  unfold zdy at h
  replace h:=retS h; subst h
  refine Wp.seq (regP (seqN ?_))
  refine regP ?_
  exact finW [.cell 0 11 (.virt 1),.cell 0 12 (.virt 1),.cell 0 13 (.virt 1),.kill [0,2],.drop [3,4,5],.tidy]
theorem zeq{term:Int}{lead:Int}{m:Tmember}{r:Tmember} (h:zam term lead m=some r):Spec Pg 66 [.ptr 0 0,.int .i64 term,.int .i64 lead] (hp30 m.Raft.Id m.Raft.N m.Raft.Term m.Raft.Vote m.Raft.Role m.Raft.Lead m.Raft.Log.Base m.Raft.Log.BaseTerm m.Raft.Log.Entries m.Raft.Commit m.Raft.Snap m.Raft.Granted m.Raft.Next m.Raft.Match m.Raft.Clock m.Raft.Wait m.f_out) 7 (.tup []) (zrz r.Raft.Id r.Raft.N r.Raft.Term r.Raft.Vote r.Raft.Role r.Raft.Lead r.Raft.Log.Base r.Raft.Log.BaseTerm r.Raft.Log.Entries r.Raft.Commit r.Raft.Snap r.Raft.Granted r.Raft.Next r.Raft.Match r.Raft.Clock r.Raft.Wait r.f_out) 10:=by
  refine Spec.intro Go.Proofs.Try.func66 i66_ok (le_of_ble rfl) ?_
  show Wp Pg 43 7 i66_B ⟨argEnv _ i66_V,[],_,_⟩ (qf_66_v0 r)
  unfold zam at h
  unfold i66_B
  refine weakP [] ?_
  refine Wp.seq (Wp.seq (regP (seqN ?_)))
  replace h:=ifS h; rcases h with ⟨g1,h⟩ | ⟨g1,h⟩
  ·refine condTP ?_
   refine regP (seqN ?_)
   exact jumpK [.kill [1,12]] (zkc h)
  ·refine condFP (Wp.skip (seqN ?_))
   exact jumpK [.kill [1,12]] (zkc h)
noncomputable abbrev qf_88(r:Int):Ex→St→Prop:=FinQ 0 [.tmp 2] (.int .i64 r) [] 0
theorem zna{n0:Int}{r:Int} (h:zgk n0=some r):Spec Pg 88 [.int .i64 n0] [] 0 (.int .i64 r) [] 0:=by
  refine Spec.intro Go.Proofs.Try.func88 i88_ok (le_of_ble rfl) ?_
  show Wp Pg 8 0 i88_B ⟨argEnv _ i88_V,[],_,_⟩ (qf_88 r)
  unfold zgk at h
  unfold i88_B
  refine weakP [] ?_
  refine Wp.seq (regP (seqN (Wp.seq (Wp.seq ?_))))
  refine regP (seqN ?_)
  replace h:=ifS h; rcases h with ⟨g1,h⟩ | ⟨g1,h⟩
  ·replace h:=retS h; subst h
   refine condTP (Wp.seq ?_)
   refine regP (seqN (Wp.ret (seqR ?_)))
   exact finP
  ·replace h:=retS h; subst h
   refine condFP (Wp.skip (seqN (Wp.seq ?_)))
   refine regP (seqN (Wp.ret ?_))
   exact finP
noncomputable abbrev qf_82(r:Bool):Ex→St→Prop:=FinQ 0 [.tmp 2] (.bool r) [] 0
noncomputable abbrev znb(l:(List Bool))(rec0:Int→Int→Option Bool)(r:Bool):Prop:=∀ {n0 v8:Int},rec0 n0 v8=some r→LWp Pg 26 0 i82_L0 ⟨[(0,sl cb l),(2,.bad),(3,.int .i64 n0),(5,.bad),(6,sl cb l),(7,.int .i64 (l.length:Int)),(8,.int .i64 v8),(9,.bad),(12,.bad)],[],[],0⟩ (blockQ 0 (seqQ Pg 26 0 (.seq (.reg none i82_R8) .ret) (qf_82 r)))
theorem zrc{l:(List Bool)}{n0_1:Int}{r:Bool} (h:zjw l n0_1=some r):Wp Pg 26 0 (.seq (.reg none i82_R8) .ret) ⟨[(0,sl cb l),(2,.bad),(3,.int .i64 n0_1),(5,.bad),(6,.bad),(7,.bad),(8,.bad),(9,.bad),(12,.bad)],[],[],0⟩ (qf_82 r):=by
  unfold zjw at h
  refine Wp.seq (Wp.reg ?_)
  replace h:=ifS h; rcases h with ⟨g4,h⟩ | ⟨g4,h⟩
  ·replace h:=bndS h; obtain ⟨r0,g5,h⟩:=h
   replace h:=retS h; subst h
   refine chunkT 8 (tab_cons (zna g5) (tab_nil _)) ?_
   refine lastT (tab_nil _) (seqN (Wp.ret ?_))
   exact finP
  ·replace h:=retS h; subst h
   refine lastT (tab_nil _) (seqN (Wp.ret ?_))
   exact finP
theorem zpw{l:(List Bool)}{r:Bool} {zfy:Int→Int→Option Bool}(zlv:znb l zfy r){n0 v8:Int}(h:zgt l zfy n0 v8=some r):LWp Pg 26 0 i82_L0 ⟨[(0,sl cb l),(2,.bad),(3,.int .i64 n0),(5,.bad),(6,sl cb l),(7,.int .i64 (l.length:Int)),(8,.int .i64 v8),(9,.bad),(12,.bad)],[],[],0⟩ (blockQ 0 (seqQ Pg 26 0 (.seq (.reg none i82_R8) .ret) (qf_82 r))):=by
  unfold zgt at h
  refine LWp.stepC i82_L0.eq_1 ?_
  refine Wp.seq (regP (seqN (Wp.seq ?_)))
  replace h:=ifS h; rcases h with ⟨g1,h⟩ | ⟨g1,h⟩
  ·refine condTP (Wp.skip (seqN (Wp.seq (Wp.block (Wp.seq ?_)))))
   replace h:=bndS h; obtain ⟨e,g2,h⟩:=h
   refine regP (seqN (Wp.seq ?_))
   refine regP (seqN ?_)
   replace h:=ifS h; rcases h with ⟨g3,h⟩ | ⟨g3,h⟩
   ·refine condTP ?_
    refine regP (blockN (seqN ?_))
    refine regP (loopN ?_)
    exact jumpL [.kill [5,9,12]] (zlv h)
   ·refine condFP (Wp.skip (blockN (seqN ?_)))
    refine regP (loopN ?_)
    exact jumpL [.kill [5,9,12]] (zlv h)
  ·refine condFP (Wp.out (seqO (loopO (blockO (seqN ?_)))))
   exact jumpK [.kill [6,7,8,9]] (zrc h)
theorem zrd{l:(List Bool)}{r:Bool}:∀ (n:Nat),znb l (zef l n) r:=by
  intro n
  induction n with
  | zero=>intro n0 v8 h; unfold zef at h; cases h
  | succ n ih=>intro n0 v8 h; unfold zef at h; exact zpw ih h
theorem zpf{l:(List Bool)}{r:Bool} (h:ziw l=some r):Spec Pg 82 [sl cb l] [] 0 (.bool r) [] 0:=by
  refine Spec.intro Go.Proofs.Try.func82 i82_ok (le_of_ble rfl) ?_
  show Wp Pg 26 0 i82_B ⟨argEnv _ i82_V,[],_,_⟩ (qf_82 r)
  unfold ziw at h
  unfold i82_B
  refine weakP [] ?_
  refine Wp.seq (regP (seqN (Wp.seq ?_)))
  refine regP (seqN (Wp.seq (Wp.seq ?_)))
  refine regP (seqN (Wp.block (Wp.loop ?_)))
  exact jumpL [.kill [2,5,9,12]] (zrd _ h)
noncomputable abbrev qf_68_v0(r:(Bool × Tmember)):Ex→St→Prop:=FinQ 7 [.tmp 4] (.bool r.1) (hp80 r.2.Raft.Id r.2.Raft.N r.2.Raft.Term r.2.Raft.Vote r.2.Raft.Role r.2.Raft.Lead r.2.Raft.Log.Base r.2.Raft.Log.BaseTerm r.2.Raft.Log.Entries r.2.Raft.Commit r.2.Raft.Snap r.2.Raft.Granted r.2.Raft.Next r.2.Raft.Match r.2.Raft.Clock r.2.Raft.Wait r.2.f_out) 7
theorem zje{who:Int}{m:Tmember}{r:(Bool × Tmember)} (h:zbi who m=some r):Spec Pg 68 [.ptr 0 0,.int .i64 who] (hp80 m.Raft.Id m.Raft.N m.Raft.Term m.Raft.Vote m.Raft.Role m.Raft.Lead m.Raft.Log.Base m.Raft.Log.BaseTerm m.Raft.Log.Entries m.Raft.Commit m.Raft.Snap m.Raft.Granted m.Raft.Next m.Raft.Match m.Raft.Clock m.Raft.Wait m.f_out) 7 (.bool r.1) (hp80 r.2.Raft.Id r.2.Raft.N r.2.Raft.Term r.2.Raft.Vote r.2.Raft.Role r.2.Raft.Lead r.2.Raft.Log.Base r.2.Raft.Log.BaseTerm r.2.Raft.Log.Entries r.2.Raft.Commit r.2.Raft.Snap r.2.Raft.Granted r.2.Raft.Next r.2.Raft.Match r.2.Raft.Clock r.2.Raft.Wait r.2.f_out) 7:=by
  refine Spec.intro Go.Proofs.Try.func68 i68_ok (le_of_ble rfl) ?_
  show Wp Pg 19 7 i68_B ⟨argEnv _ i68_V,[],_,_⟩ (qf_68_v0 r)
  unfold zbi at h
  unfold i68_B
  refine weakP [] ?_
  refine Wp.seq (regP (seqN (Wp.seq ?_)))
  replace h:=bndS h; obtain ⟨e,g1,h⟩:=h
  have:=ias_ownL (n:=1) (id:=3) (ex:=true) (k:=.i64) g1 rfl
  have:=ld_get (c:=cb) g1
  have:=set_get cb m.Raft.Granted (IntKind.i64.wrap (who - (1:Int))) true
  try simp only [EV,EVt, *] at this
  refine regP (seqN (Wp.seq (Wp.reg ?_)))
  replace h:=bndS h; obtain ⟨r0,g2,h⟩:=h
  replace h:=retS h; subst h
  refine chunkT 6 (tab_cons (zpf g2) (tab_nil _)) ?_
  refine lastT (tab_nil _) (seqN (Wp.ret ?_))
  exact finW [.kill [0,1],.tidy]
noncomputable abbrev qf_66_v1(r:Tmember):Ex→St→Prop:=FinQ 7 [] (.tup []) (zrz r.Raft.Id r.Raft.N r.Raft.Term r.Raft.Vote r.Raft.Role r.Raft.Lead r.Raft.Log.Base r.Raft.Log.BaseTerm r.Raft.Log.Entries r.Raft.Commit r.Raft.Snap r.Raft.Granted r.Raft.Next r.Raft.Match r.Raft.Clock r.Raft.Wait r.f_out) 10
theorem zjf{lead:Int}{m:Tmember}{m_20 m_30:Int}{r:Tmember} (h:zer lead m m_20 m_30=some r):Wp Pg 43 7 (.seq (.reg none i66_R2) (.reg none i66_R3)) ⟨[(0,.ptr 0 0),(1,.bad),(2,.int .i64 lead),(12,.bad)],[],(hp80 m.Raft.Id m.Raft.N m_20 m_30 m.Raft.Role m.Raft.Lead m.Raft.Log.Base m.Raft.Log.BaseTerm m.Raft.Log.Entries m.Raft.Commit m.Raft.Snap m.Raft.Granted m.Raft.Next m.Raft.Match m.Raft.Clock m.Raft.Wait m.f_out),7⟩ (qf_66_v1 r):=by
  unfold zer at h
  replace h:=retS h; subst h
  refine Wp.seq (regP (seqN ?_))
  refine regP ?_
  exact finW [.cell 0 11 (.virt 1),.cell 0 12 (.virt 1),.cell 0 13 (.virt 1),.kill [0,2],.drop [3,4,5],.tidy]
theorem zkd{term:Int}{lead:Int}{m:Tmember}{r:Tmember} (h:zcj term lead m=some r):Spec Pg 66 [.ptr 0 0,.int .i64 term,.int .i64 lead] (hp80 m.Raft.Id m.Raft.N m.Raft.Term m.Raft.Vote m.Raft.Role m.Raft.Lead m.Raft.Log.Base m.Raft.Log.BaseTerm m.Raft.Log.Entries m.Raft.Commit m.Raft.Snap m.Raft.Granted m.Raft.Next m.Raft.Match m.Raft.Clock m.Raft.Wait m.f_out) 7 (.tup []) (zrz r.Raft.Id r.Raft.N r.Raft.Term r.Raft.Vote r.Raft.Role r.Raft.Lead r.Raft.Log.Base r.Raft.Log.BaseTerm r.Raft.Log.Entries r.Raft.Commit r.Raft.Snap r.Raft.Granted r.Raft.Next r.Raft.Match r.Raft.Clock r.Raft.Wait r.f_out) 10:=by
  refine Spec.intro Go.Proofs.Try.func66 i66_ok (le_of_ble rfl) ?_
  show Wp Pg 43 7 i66_B ⟨argEnv _ i66_V,[],_,_⟩ (qf_66_v1 r)
  unfold zcj at h
  unfold i66_B
  refine weakP [] ?_
  refine Wp.seq (Wp.seq (regP (seqN ?_)))
  replace h:=ifS h; rcases h with ⟨g1,h⟩ | ⟨g1,h⟩
  ·refine condTP ?_
   refine regP (seqN ?_)
   exact jumpK [.kill [1,12]] (zjf h)
  ·refine condFP (Wp.skip (seqN ?_))
   exact jumpK [.kill [1,12]] (zjf h)
noncomputable abbrev qf_109(r:Bool):Ex→St→Prop:=FinQ 0 [.tmp 2] (.bool r) [] 0
theorem znc{x0:Int}{r:Bool} (h:zik x0=some r):Spec Pg 109 [.int .i64 x0] [] 0 (.bool r) [] 0:=by
  refine Spec.intro Go.Proofs.Try.func109 i109_ok (le_of_ble rfl) ?_
  show Wp Pg 6 0 i109_B ⟨argEnv _ i109_V,[],_,_⟩ (qf_109 r)
  unfold zik at h
  unfold i109_B
  refine weakP [] ?_
  replace h:=retS h; subst h
  refine Wp.seq (regP (seqN (Wp.seq ?_)))
  refine regP (seqN (Wp.ret ?_))
  exact finP
noncomputable abbrev qf_99_v0(r:Bool):Ex→St→Prop:=FinQ 0 [.tmp 4] (.bool r) [] 0
theorem zri{x0:Int}{y:Int}{r:Bool} (h:zix x0 y=some r):Spec Pg 99 [.int .i64 x0,.int .i64 y] [] 0 (.bool r) [] 0:=by
  refine Spec.intro Go.Proofs.Try.func99 i99_ok (le_of_ble rfl) ?_
  show Wp Pg 17 0 i99_B ⟨argEnv _ i99_V,[],_,_⟩ (qf_99_v0 r)
  unfold zix at h
  unfold i99_B
  refine weakP [] ?_
  refine Wp.seq (regP (seqN (Wp.seq (Wp.reg ?_))))
  replace h:=bndS h; obtain ⟨r0,g1,h⟩:=h
  refine chunkT 2 (tab_cons (znc g1) (tab_nil _)) ?_
  replace h:=ifS h; rcases h with ⟨g2,h⟩ | ⟨g2,h⟩
  ·replace h:=bndS h; obtain ⟨r0_1,g3,h⟩:=h
   refine chunkT 3 (tab_cons (znc g3) (tab_nil _)) ?_
   replace h:=ifS h; rcases h with ⟨g4,h⟩ | ⟨g4,h⟩
   ·replace h:=retS h; subst h
    refine lastT (tab_nil _) (seqN (Wp.ret ?_))
    exact finW [.kill [0,1],.tidy]
   ·replace h:=retS h; subst h
    refine lastT (tab_nil _) (seqN (Wp.ret ?_))
    exact finW [.kill [0,1],.tidy]
  ·replace h:=retS h; subst h
   refine lastT (tab_nil _) (seqN (Wp.ret ?_))
   exact finW [.kill [0,1],.tidy]
noncomputable abbrev qf_93_v0(r:(List Int)):Ex→St→Prop:=FinQ 1 [] (.tup []) [(0,.arr 1 (List.map (ci .i64) r) 0)] 1
noncomputable abbrev zaa(a b:Int)(rec0:Int→(List Int)→Option (List Int))(r:(List Int)):Prop:=∀ {i:Int} {data_1:(List Int)},rec0 i data_1=some r→LWp Pg 49 1 i93_L1 ⟨[(0,.own 1 0 0 data_1.length false),(1,.int .i64 a),(2,.int .i64 b),(6,.int .i64 i),(7,.bad),(12,.bad),(30,.bad)],[],[(0,.arr 1 (List.map (ci .i64) data_1) 0)],1⟩ (blockQ 0 (qf_93_v0 r))
noncomputable abbrev zcv(a b i:Int)(rec0:Int→(List Int)→Option (List Int))(r:(List Int)):Prop:=∀ {j:Int} {data_2:(List Int)},rec0 j data_2=some r→LWp Pg 49 1 i93_L0 ⟨[(0,.own 1 0 0 data_2.length false),(1,.int .i64 a),(2,.int .i64 b),(6,.int .i64 i),(7,.int .i64 j),(12,.bad),(30,.bad)],[],[(0,.arr 1 (List.map (ci .i64) data_2) 0)],1⟩ (blockQ 2 (blockQ 1 (seqQ Pg 49 1 (.reg none i93_R6) (loopQ Pg 49 1 i93_L1 (blockQ 0 (qf_93_v0 r))))))
theorem zjt{a b i:Int}{data_3:(List Int)}{r:(List Int)}{za:Int→(List Int)→Option (List Int)}(zk:zaa a b za r)(h:zau za i data_3=some r):Wp Pg 49 1 (.reg none i93_R6) ⟨[(0,.own 1 0 0 data_3.length false),(1,.int .i64 a),(2,.int .i64 b),(6,.int .i64 i),(7,.bad),(12,.bad),(30,.bad)],[],[(0,.arr 1 (List.map (ci .i64) data_3) 0)],1⟩ (loopQ Pg 49 1 i93_L1 (blockQ 0 (qf_93_v0 r))):=by
  unfold zau at h
  refine regP (loopN ?_)
  exact jumpL [] (zk h)
theorem zga{a b i j:Int}{data_2:(List Int)}{v30:Bool}{r:(List Int)}{zl:Int→(List Int)→Option (List Int)}{za:Int→(List Int)→Option (List Int)}(zba:zcv a b i zl r)(zk:zaa a b za r)(h:zad zl za i j data_2 v30=some r):Wp Pg 49 1 (.cond (.t 30) .skip (.out 2)) ⟨[(0,.own 1 0 0 data_2.length false),(1,.int .i64 a),(2,.int .i64 b),(6,.int .i64 i),(7,.int .i64 j),(12,.bad),(30,.bool v30)],[],[(0,.arr 1 (List.map (ci .i64) data_2) 0)],1⟩ (seqQ Pg 49 1 (.seq (.block 3 (.reg (some []) i93_R4)) (.reg none i93_R5)) (loopQ Pg 49 1 i93_L0 (blockQ 2 (blockQ 1 (seqQ Pg 49 1 (.reg none i93_R6) (loopQ Pg 49 1 i93_L1 (blockQ 0 (qf_93_v0 r)))))))):=by
  unfold zad at h
  replace h:=ifS h; rcases h with ⟨g6,h⟩ | ⟨g6,h⟩
  ·refine condTP (Wp.skip (seqN (Wp.seq (Wp.block ?_))))
   replace h:=bndS h; obtain ⟨e_2,g7,h⟩:=h
   replace h:=bndS h; obtain ⟨e_3,g8,h⟩:=h
   replace h:=bndS h; obtain ⟨e_4,g9,h⟩:=h
   have:=ias_ownL (n:=1) (id:=0) (ex:=false) (k:=.i64) g7 rfl
   have:=ld_get (c:=(ci .i64)) g7
   have:=ias_ownL (n:=1) (id:=0) (ex:=false) (k:=.i64) g8 rfl
   have:=ld_get (c:=(ci .i64)) g8
   have:=set_get (ci .i64) data_2 j e_2
   try simp only [EV,EVt, *] at this
   have:=ias_ownL (n:=1) (id:=0) (ex:=false) (k:=.i64) g9 rfl
   try simp only [EV,EVt, *] at this
   have:=ld_get (c:=(ci .i64)) g9
   try simp only [EV,EVt, *] at this
   have:=set_get (ci .i64) (setI data_2 j e_2) (IntKind.i64.wrap (j - (1:Int))) e_3
   try simp only [EV,EVt, *] at this
   refine drawP [] mixed (clsN _) (blockN (seqN ?_))
   refine regP (loopN ?_)
   exact jumpL [.kill [30],.tidy] (zba h)
  ·refine condFP (Wp.out (seqO (loopO (blockO (blockN (seqN ?_))))))
   exact jumpK [.kill [7,30]] (zjt (a:=a) (b:=b) zk h)
theorem zjj{b a i:Int}{r:(List Int)}{za:Int→(List Int)→Option (List Int)}(zk:zaa a b za r){zl:Int→(List Int)→Option (List Int)}(zba:zcv a b i zl r){j:Int}{data_2:(List Int)}(h:zai za a i zl j data_2=some r):LWp Pg 49 1 i93_L0 ⟨[(0,.own 1 0 0 data_2.length false),(1,.int .i64 a),(2,.int .i64 b),(6,.int .i64 i),(7,.int .i64 j),(12,.bad),(30,.bad)],[],[(0,.arr 1 (List.map (ci .i64) data_2) 0)],1⟩ (blockQ 2 (blockQ 1 (seqQ Pg 49 1 (.reg none i93_R6) (loopQ Pg 49 1 i93_L1 (blockQ 0 (qf_93_v0 r)))))):=by
  unfold zai at h
  refine LWp.stepC i93_L0.eq_1 ?_
  refine Wp.seq (Wp.seq ?_)
  replace h:=ifS h; rcases h with ⟨g2,h⟩ | ⟨g2,h⟩
  ·replace h:=bndS h; obtain ⟨e,g3,h⟩:=h
   replace h:=bndS h; obtain ⟨e_1,g4,h⟩:=h
   replace h:=bndS h; obtain ⟨r0,g5,h⟩:=h
   have:=ias_ownL (n:=1) (id:=0) (ex:=false) (k:=.i64) g3 rfl
   have:=ld_get (c:=(ci .i64)) g3
   have:=ias_ownL (n:=1) (id:=0) (ex:=false) (k:=.i64) g4 rfl
   have:=ld_get (c:=(ci .i64)) g4
   refine drawP [99] mixed (clsC 13 (tab_cons (zri g5) (tab_nil _)) (clsN _)) (seqN ?_)
   exact jumpK [.tidy] (zga (a:=a) (b:=b) zba zk h)
  ·refine drawP [] mixed (clsN _) (seqN ?_)
   exact jumpK [.tidy] (zga (a:=a) (b:=b) zba zk h)
theorem zju{b a i:Int}{r:(List Int)}{za:Int→(List Int)→Option (List Int)}(zk:zaa a b za r):∀ (n:Nat),zcv a b i (zo za a i n) r:=by
  intro n
  induction n with
  | zero=>intro j data_2 h; unfold zo at h; cases h
  | succ n ih=>intro j data_2 h; unfold zo at h; exact zjj (b:=b) zk ih h
theorem zjk{a b:Int}{r:(List Int)} {za:Int→(List Int)→Option (List Int)}(zk:zaa a b za r){i:Int}{data_1:(List Int)}(h:zaj a b za i data_1=some r):LWp Pg 49 1 i93_L1 ⟨[(0,.own 1 0 0 data_1.length false),(1,.int .i64 a),(2,.int .i64 b),(6,.int .i64 i),(7,.bad),(12,.bad),(30,.bad)],[],[(0,.arr 1 (List.map (ci .i64) data_1) 0)],1⟩ (blockQ 0 (qf_93_v0 r)):=by
  unfold zaj at h
  refine LWp.stepC i93_L1.eq_1 ?_
  refine Wp.seq (Wp.seq (regP (seqN ?_)))
  replace h:=ifS h; rcases h with ⟨g1,h⟩ | ⟨g1,h⟩
  ·refine condTP (Wp.skip (seqN (Wp.seq (Wp.block (Wp.seq ?_)))))
   refine regP (seqN (Wp.block (Wp.loop ?_)))
   exact jumpL [.kill [12]] (zju (b:=b) zk _ h)
  ·replace h:=retS h; subst h
   refine condFP (Wp.out (seqO (loopO (blockO ?_))))
   exact finW [.kill [0,1,2,6,12],.tidy]
theorem zjv{a b:Int}{r:(List Int)}:∀ (n:Nat),zaa a b (zn a b n) r:=by
  intro n
  induction n with
  | zero=>intro i data_1 h; unfold zn at h; cases h
  | succ n ih=>intro i data_1 h; unfold zn at h; exact zjk ih h
theorem zks{data:(List Int)}{a:Int}{b:Int}{r:(List Int)} (h:zbe data a b=some r):Spec Pg 93 [.own 1 0 0 data.length false,.int .i64 a,.int .i64 b] [(0,.arr 1 (List.map (ci .i64) data) 0)] 1 (.tup []) [(0,.arr 1 (List.map (ci .i64) r) 0)] 1:=by
  refine Spec.intro Go.Proofs.Try.func93 i93_ok (le_of_ble rfl) ?_
  show Wp Pg 49 1 i93_B ⟨argEnv _ i93_V,[],_,_⟩ (qf_93_v0 r)
  unfold zbe at h
  unfold i93_B
  refine weakP [] ?_
  refine Wp.seq (regP (seqN (Wp.block (Wp.loop ?_))))
  exact jumpL [.kill [7,12,30]] (zjv _ h)
noncomputable abbrev qf_91_v0(r:(List Int)):Ex→St→Prop:=FinQ 1 [] (.tup []) [(0,.arr 1 (List.map (ci .i64) r) 0)] 1
noncomputable abbrev zht(data:(List Int))(a b limit:Int)(rec0:Option (List Int))(r:(List Int)):Prop:=rec0=some r→LWp Pg 134 1 i91_L0 ⟨[(0,.own 1 0 0 data.length false),(1,.int .i64 a),(2,.int .i64 b),(3,.int .i64 limit),(8,.bool true),(9,.bool true),(10,.bad),(11,.bad),(12,.bad),(13,.bad),(14,.bad),(15,.bad),(16,.bad),(17,.bad),(18,.bad),(23,.bad),(29,.bad),(35,.bad),(50,.bad),(68,.bad),(72,.bad),(87,.bad),(113,.bad)],[],[(0,.arr 1 (List.map (ci .i64) data) 0)],1⟩ (blockQ 0 (qf_91_v0 r))
theorem zlc{data:(List Int)}{a b limit:Int}{r:(List Int)} {zec:Option (List Int)}(zra:zht data a b limit zec r) (h:zcm data a b limit zec=some r):LWp Pg 134 1 i91_L0 ⟨[(0,.own 1 0 0 data.length false),(1,.int .i64 a),(2,.int .i64 b),(3,.int .i64 limit),(8,.bool true),(9,.bool true),(10,.bad),(11,.bad),(12,.bad),(13,.bad),(14,.bad),(15,.bad),(16,.bad),(17,.bad),(18,.bad),(23,.bad),(29,.bad),(35,.bad),(50,.bad),(68,.bad),(72,.bad),(87,.bad),(113,.bad)],[],[(0,.arr 1 (List.map (ci .i64) data) 0)],1⟩ (blockQ 0 (qf_91_v0 r)):=by
  unfold zcm at h
  refine LWp.stepC i91_L0.eq_1 ?_
  refine Wp.block (Wp.seq (regP (seqN (Wp.seq (Wp.seq ?_)))))
  refine regP (seqN ?_)
  replace h:=ifS h; rcases h with ⟨g1,h⟩ | ⟨g1,h⟩
  ·refine condTP (Wp.seq (Wp.reg ?_))
   replace h:=bndS h; obtain ⟨r0,g2,h⟩:=h
   replace h:=reqS h; obtain ⟨g3,h⟩:=h
   replace h:=retS h; subst h
   have:=of_decide_eq_true g3
   refine lastF (tab_cons (zks g2) (tab_nil _)) (seqN (Wp.ret (seqR (blockR (loopR (blockR ?_))))))
   exact finW [.kill [0,1,2,3,8,9,10,23],.tidy]
  ·refine condFP (Wp.skip (seqN (Wp.seq (Wp.seq ?_))))
   refine regP (seqN ?_)
   replace h:=reqF h; obtain ⟨g4,h⟩:=h
   refine condFP (Wp.skip (seqN (Wp.seq (Wp.seq ?_))))
   refine regP (seqN ?_)
   refine condFP (Wp.skip (seqN ?_))
   cases h
theorem zln{data:(List Int)}{a b limit:Int}{r:(List Int)}:∀ (n:Nat),zht data a b limit (zaf data a b limit n) r:=by
  intro n
  induction n with
  | zero=>intro h; unfold zaf at h; cases h
  | succ n ih=>intro h; unfold zaf at h; exact zlc ih h
theorem zmc{data:(List Int)}{a:Int}{b:Int}{limit:Int}{r:(List Int)} (h:zeg data a b limit=some r):Spec Pg 91 [.own 1 0 0 data.length false,.int .i64 a,.int .i64 b,.int .i64 limit] [(0,.arr 1 (List.map (ci .i64) data) 0)] 1 (.tup []) [(0,.arr 1 (List.map (ci .i64) r) 0)] 1:=by
  refine Spec.intro Go.Proofs.Try.func91 i91_ok (le_of_ble rfl) ?_
  show Wp Pg 134 1 i91_B ⟨argEnv _ i91_V,[],_,_⟩ (qf_91_v0 r)
  unfold zeg at h
  unfold i91_B
  refine weakP [] ?_
  refine Wp.seq (regP (seqN (Wp.seq ?_)))
  refine regP (seqN (Wp.block (Wp.loop ?_)))
  exact jumpL [.kill [10,11,12,13,14,15,16,17,18,23,29,35,50,68,72,87,113]] (zln _ h)
noncomputable abbrev qf_103(r:Int):Ex→St→Prop:=FinQ 0 [.tmp 2] (.int .i64 r) [] 0
theorem zli{x0_3 n0_2:Int}{r:Int} (h:zfj x0_3 n0_2=some r):Wp Pg 25 0 (.seq (.reg none i103_R10) .ret) ⟨[(0,.int .u64 x0_3),(2,.int .i64 n0_2),(4,.bad),(8,.bad),(14,.bad)],[],[],0⟩ (qf_103 r):=by
  unfold zfj at h
  refine Wp.seq ?_
  replace h:=bndS h; obtain ⟨c,g4,h⟩:=h
  replace h:=retS h; subst h
  refine regP (seqN (Wp.ret ?_))
  exact finP
theorem zlj{x0_2 n0_1:Int}{r:Int} (h:zfk x0_2 n0_1=some r):Wp Pg 25 0 (.seq (.seq (.reg none i103_R7) (.cond (.t 14) (.seq (.reg none i103_R8) (.reg none i103_R9)) .skip)) (.seq (.reg none i103_R10) .ret)) ⟨[(0,.int .u64 x0_2),(2,.int .i64 n0_1),(4,.bad),(8,.bad),(14,.bad)],[],[],0⟩ (qf_103 r):=by
  unfold zfk at h
  refine Wp.seq (Wp.seq (regP (seqN ?_)))
  replace h:=ifS h; rcases h with ⟨g3,h⟩ | ⟨g3,h⟩
  ·refine condTP (Wp.seq ?_)
   refine regP (seqN ?_)
   refine regP (seqN ?_)
   exact jumpK [.kill [14]] (zli h)
  ·refine condFP (Wp.skip (seqN ?_))
   exact jumpK [.kill [14]] (zli h)
theorem zlk{x0_1 n0:Int}{r:Int} (h:zfl x0_1 n0=some r):Wp Pg 25 0 (.seq (.seq (.reg none i103_R4) (.cond (.t 8) (.seq (.reg none i103_R5) (.reg none i103_R6)) .skip)) (.seq (.seq (.reg none i103_R7) (.cond (.t 14) (.seq (.reg none i103_R8) (.reg none i103_R9)) .skip)) (.seq (.reg none i103_R10) .ret))) ⟨[(0,.int .u64 x0_1),(2,.int .i64 n0),(4,.bad),(8,.bad),(14,.bad)],[],[],0⟩ (qf_103 r):=by
  unfold zfl at h
  refine Wp.seq (Wp.seq (regP (seqN ?_)))
  replace h:=ifS h; rcases h with ⟨g2,h⟩ | ⟨g2,h⟩
  ·refine condTP (Wp.seq ?_)
   refine regP (seqN ?_)
   refine regP (seqN ?_)
   exact jumpK [.kill [8]] (zlj h)
  ·refine condFP (Wp.skip (seqN ?_))
   exact jumpK [.kill [8]] (zlj h)
theorem zpx{x0:Int}{r:Int} (h:zis x0=some r):Spec Pg 103 [.int .u64 x0] [] 0 (.int .i64 r) [] 0:=by
  refine Spec.intro Go.Proofs.Try.func103 i103_ok (le_of_ble rfl) ?_
  show Wp Pg 25 0 i103_B ⟨argEnv _ i103_V,[],_,_⟩ (qf_103 r)
  unfold zis at h
  unfold i103_B
  refine weakP [] ?_
  refine Wp.seq (regP (seqN (Wp.seq (Wp.seq ?_))))
  refine regP (seqN ?_)
  replace h:=ifS h; rcases h with ⟨g1,h⟩ | ⟨g1,h⟩
  ·refine condTP (Wp.seq ?_)
   refine regP (seqN ?_)
   refine regP (seqN ?_)
   exact jumpK [.kill [4,8,14]] (zlk h)
  ·refine condFP (Wp.skip (seqN ?_))
   exact jumpK [.kill [4,8,14]] (zlk h)
noncomputable abbrev qf_92(r:Int):Ex→St→Prop:=FinQ 0 [.tmp 2] (.int .i64 r) [] 0
theorem zre{x0:Int}{r:Int} (h:zil x0=some r):Spec Pg 92 [.int .u64 x0] [] 0 (.int .i64 r) [] 0:=by
  refine Spec.intro Go.Proofs.Try.func92 i92_ok (le_of_ble rfl) ?_
  show Wp Pg 8 0 i92_B ⟨argEnv _ i92_V,[],_,_⟩ (qf_92 r)
  unfold zil at h
  unfold i92_B
  refine weakP [] ?_
  refine Wp.seq (regP (seqN (Wp.seq ?_)))
  refine condFP (Wp.skip (seqN (Wp.seq (Wp.reg ?_))))
  replace h:=bndS h; obtain ⟨r0,g1,h⟩:=h
  replace h:=retS h; subst h
  refine chunkT 2 (tab_cons (zpx g1) (tab_nil _)) ?_
  refine lastT (tab_nil _) (seqN (Wp.ret ?_))
  exact finP
noncomputable abbrev qf_90_v0(r:(List Int)):Ex→St→Prop:=FinQ 1 [] (.tup []) [(0,.arr 1 (List.map (ci .i64) r) 0)] 1
theorem zoc{x0:(List Int)}{r:(List Int)} (h:zev x0=some r):Spec Pg 90 [.own 1 0 0 x0.length false] [(0,.arr 1 (List.map (ci .i64) x0) 0)] 1 (.tup []) [(0,.arr 1 (List.map (ci .i64) r) 0)] 1:=by
  refine Spec.intro Go.Proofs.Try.func90 i90_ok (le_of_ble rfl) ?_
  show Wp Pg 11 1 i90_B ⟨argEnv _ i90_V,[],_,_⟩ (qf_90_v0 r)
  unfold zev at h
  unfold i90_B
  refine weakP [] ?_
  refine Wp.seq (regP (seqN (Wp.reg ?_)))
  replace h:=bndS h; obtain ⟨r0,g1,h⟩:=h
  refine chunkT 5 (tab_cons (zre g1) (tab_nil _)) ?_
  replace h:=bndS h; obtain ⟨r0_1,g2,h⟩:=h
  replace h:=reqS h; obtain ⟨g3,h⟩:=h
  replace h:=retS h; subst h
  have:=of_decide_eq_true g3
  refine lastF (tab_cons (zmc g2) (tab_nil _)) ?_
  exact finW [.kill [0,2],.tidy]
noncomputable abbrev qf_89(r:(Int × Bool)):Ex→St→Prop:=FinQ 0 [.tmp 4,.tmp 5] (.tup [.int .i64 r.1,.bool r.2]) [] 0
theorem zls{l:(List Int)}{n0:Int}{v15:Bool}{r:(Int × Bool)} (h:zfz l n0 v15=some r):Wp Pg 28 0 (.cond (.t 15) (.seq (.reg none i89_R3) .ret) .skip) ⟨[(0,sl (ci .i64) l),(1,.int .i64 n0),(4,.bad),(5,.bad),(6,.int .i64 (0:Int)),(7,.bad),(15,.bool v15)],[],[],0⟩ (seqQ Pg 28 0 (.seq (.reg none i89_R4) (.seq (.reg none i89_R5) (.seq (.reg none i89_R6) .ret))) (qf_89 r)):=by
  unfold zfz at h
  replace h:=ifS h; rcases h with ⟨g2,h⟩ | ⟨g2,h⟩
  ·replace h:=retS h; subst h
   refine condTP (Wp.seq ?_)
   refine regP (seqN (Wp.ret (seqR ?_)))
   exact finP
  ·refine condFP (Wp.skip (seqN (Wp.seq ?_)))
   replace h:=reqS h; obtain ⟨g3,h⟩:=h
   refine regP (seqN (Wp.seq (Wp.reg ?_)))
   replace h:=bndS h; obtain ⟨r0,g4,h⟩:=h
   replace h:=reqS h; obtain ⟨g5,h⟩:=h
   have:=of_decide_eq_true g5
   refine lastF (tab_cons (zoc g4) (tab_nil _)) (seqN (Wp.seq ?_))
   replace h:=bndS h; obtain ⟨e,g6,h⟩:=h
   replace h:=retS h; subst h
   have:=ias_ownL (n:=1) (id:=0) (ex:=false) (k:=.i64) g6 rfl
   try simp only [EV,EVt, *] at this
   have:=ld_get (c:=(ci .i64)) g6
   refine regP (seqN (Wp.ret ?_))
   exact finP
theorem zqn{l:(List Int)}{n0:Int}{r:(Int × Bool)} (h:zjh l n0=some r):Spec Pg 89 [sl (ci .i64) l,.int .i64 n0] [] 0 (.tup [.int .i64 r.1,.bool r.2]) [] 0:=by
  refine Spec.intro Go.Proofs.Try.func89 i89_ok (le_of_ble rfl) ?_
  show Wp Pg 28 0 i89_B ⟨argEnv _ i89_V,[],_,_⟩ (qf_89 r)
  unfold zjh at h
  unfold i89_B
  refine weakP [] ?_
  refine Wp.seq (regP (seqN (Wp.seq ?_)))
  refine regP (seqN (Wp.seq (Wp.seq ?_)))
  replace h:=ifS h; rcases h with ⟨g1,h⟩ | ⟨g1,h⟩
  ·refine regP (seqN ?_)
   exact jumpK [.kill [4,5,7]] (zls h)
  ·refine regP (seqN ?_)
   exact jumpK [.kill [4,5,7]] (zls h)
noncomputable abbrev qf_87(r:Int):Ex→St→Prop:=FinQ 0 [.tmp 2] (.int .i64 r) [] 0
theorem zkk{l:(List Int)}{r:Int} (h:zdj l=some r):Spec Pg 87 [sl (ci .i64) l] [] 0 (.int .i64 r) [] 0:=by
  refine Spec.intro Go.Proofs.Try.func87 i87_ok (le_of_ble rfl) ?_
  show Wp Pg 14 0 i87_B ⟨argEnv _ i87_V,[],_,_⟩ (qf_87 r)
  unfold zdj at h
  unfold i87_B
  refine weakP [] ?_
  refine Wp.seq (regP (seqN (Wp.seq (Wp.reg ?_))))
  replace h:=bndS h; obtain ⟨r0,g1,h⟩:=h
  refine chunkT 4 (tab_cons (zna g1) (tab_nil _)) ?_
  replace h:=bndS h; obtain ⟨r0_1,g2,h⟩:=h
  replace h:=retS h; subst h
  refine chunkT 1 (tab_cons (zqn g2) (tab_nil _)) ?_
  refine lastT (tab_nil _) (seqN (Wp.seq ?_))
  refine regP (seqN (Wp.ret ?_))
  exact finP
noncomputable abbrev qf_80_v0(r:Tmember):Ex→St→Prop:=FinQ 6 [] (.tup []) (hp82 r.Raft.Id r.Raft.N r.Raft.Term r.Raft.Vote r.Raft.Role r.Raft.Lead r.Raft.Log.Base r.Raft.Log.BaseTerm r.Raft.Log.Entries r.Raft.Commit r.Raft.Snap r.Raft.Granted r.Raft.Next r.Raft.Match r.Raft.Clock r.Raft.Wait r.f_out) 6
theorem zhj{m:Tmember}{r0:Int}{v39:Bool}{r:Tmember} (h:zck m r0 v39=some r):Wp Pg 45 6 (.cond (.t 39) (.reg none i80_R3) .skip) ⟨[(0,.ptr 0 0),(2,.int .i64 r0),(3,.bad),(4,.bad),(39,.bool v39)],[],(hp82 m.Raft.Id m.Raft.N m.Raft.Term m.Raft.Vote m.Raft.Role m.Raft.Lead m.Raft.Log.Base m.Raft.Log.BaseTerm m.Raft.Log.Entries m.Raft.Commit m.Raft.Snap m.Raft.Granted m.Raft.Next m.Raft.Match m.Raft.Clock m.Raft.Wait m.f_out),6⟩ (qf_80_v0 r):=by
  unfold zck at h
  replace h:=ifS h; rcases h with ⟨g5,h⟩ | ⟨g5,h⟩
  ·replace h:=retS h; subst h
   refine condTP ?_
   refine regP ?_
   exact finW [.kill [0,2,39],.tidy]
  ·replace h:=retS h; subst h
   refine condFP (Wp.skip ?_)
   exact finW [.kill [0,2,39],.tidy]
theorem zot{m:Tmember}{r:Tmember} (h:zdr m=some r):Spec Pg 80 [.ptr 0 0] (hp82 m.Raft.Id m.Raft.N m.Raft.Term m.Raft.Vote m.Raft.Role m.Raft.Lead m.Raft.Log.Base m.Raft.Log.BaseTerm m.Raft.Log.Entries m.Raft.Commit m.Raft.Snap m.Raft.Granted m.Raft.Next m.Raft.Match m.Raft.Clock m.Raft.Wait m.f_out) 6 (.tup []) (hp82 r.Raft.Id r.Raft.N r.Raft.Term r.Raft.Vote r.Raft.Role r.Raft.Lead r.Raft.Log.Base r.Raft.Log.BaseTerm r.Raft.Log.Entries r.Raft.Commit r.Raft.Snap r.Raft.Granted r.Raft.Next r.Raft.Match r.Raft.Clock r.Raft.Wait r.f_out) 6:=by
  refine Spec.intro Go.Proofs.Try.func80 i80_ok (le_of_ble rfl) ?_
  show Wp Pg 45 6 i80_B ⟨argEnv _ i80_V,[],_,_⟩ (qf_80_v0 r)
  unfold zdr at h
  unfold i80_B
  refine weakP [] ?_
  refine Wp.seq (Wp.reg ?_)
  replace h:=bndS h; obtain ⟨r0,g1,h⟩:=h
  refine chunkT 6 (tab_cons (zkk g1) (tab_nil _)) ?_
  refine lastT (tab_nil _) (seqN (Wp.seq (Wp.reg ?_)))
  replace h:=bndS h; obtain ⟨r0_1,g2,h⟩:=h
  refine chunkT 7 (tab_cons (zcp g2) (tab_nil _)) ?_
  refine lastT (tab_nil _) (seqN (Wp.seq ?_))
  replace h:=ifS h; rcases h with ⟨g3,h⟩ | ⟨g3,h⟩
  ·replace h:=ifS h; rcases h with ⟨g4,h⟩ | ⟨g4,h⟩
   ·refine regP (seqN ?_)
    exact jumpK [.kill [3,4]] (zhj h)
   ·refine regP (seqN ?_)
    exact jumpK [.kill [3,4]] (zhj h)
  ·refine regP (seqN ?_)
   exact jumpK [.kill [3,4]] (zhj h)
noncomputable abbrev qf_79(r:TLog):Ex→St→Prop:=FinQ 0 [.cell 4 true 3] (.agg [.int .i64 r.Base,.int .i64 r.BaseTerm,sl TEntry.c r.Entries]) [] 0
theorem zoj{l:TLog}{e:TEntry}{r:TLog} (h:zgo l e=some r):Spec Pg 79 [.agg [.int .i64 l.Base,.int .i64 l.BaseTerm,sl TEntry.c l.Entries],.agg [.int .i64 e.Term,sl (ci .u8) e.Data]] [] 0 (.agg [.int .i64 r.Base,.int .i64 r.BaseTerm,sl TEntry.c r.Entries]) [] 0:=by
  refine Spec.intro Go.Proofs.Try.func79 i79_ok (le_of_ble rfl) ?_
  show Wp Pg 20 0 i79_B ⟨argEnv _ i79_V,[],_,_⟩ (qf_79 r)
  unfold zgo at h
  unfold i79_B
  refine weakP [] ?_
  refine Wp.seq (regP (seqN (Wp.seq (Wp.reg ?_))))
  replace h:=bndS h; obtain ⟨r0,g1,h⟩:=h
  refine chunkF 2 (tab_cons (zgr g1) (tab_nil _)) ?_
  refine lastT (tab_nil _) (seqN (Wp.seq ?_))
  replace h:=reqS h; obtain ⟨g2,h⟩:=h
  replace h:=reqS h; obtain ⟨g3,h⟩:=h
  replace h:=retS h; subst h
  refine drawP [] mixed (clsN _) (seqN (Wp.seq ?_))
  refine regP (seqN ?_)
  refine weakP [.cell 4 2 .frz] (Wp.ret ?_)
  exact finP
noncomputable abbrev qf_54_v0(r:Tmember):Ex→St→Prop:=FinQ 7 [] (.tup []) (hp59 r.Raft.Id r.Raft.N r.Raft.Term r.Raft.Vote r.Raft.Role r.Raft.Lead r.Raft.Log.Base r.Raft.Log.BaseTerm r.Raft.Log.Entries r.Raft.Commit r.Raft.Snap r.Raft.Granted r.Raft.Next r.Raft.Match r.Raft.Clock r.Raft.Wait r.f_out) 8
theorem zll{m:Tmember}{r:Tmember} (h:zds m=some r):Spec Pg 54 [.ptr 0 0,.nil] (ztd m.Raft.Id m.Raft.N m.Raft.Term m.Raft.Vote m.Raft.Role m.Raft.Lead m.Raft.Log.Base m.Raft.Log.BaseTerm m.Raft.Log.Entries m.Raft.Commit m.Raft.Snap m.Raft.Granted m.Raft.Next m.Raft.Match m.Raft.Clock m.Raft.Wait m.f_out) 7 (.tup []) (hp59 r.Raft.Id r.Raft.N r.Raft.Term r.Raft.Vote r.Raft.Role r.Raft.Lead r.Raft.Log.Base r.Raft.Log.BaseTerm r.Raft.Log.Entries r.Raft.Commit r.Raft.Snap r.Raft.Granted r.Raft.Next r.Raft.Match r.Raft.Clock r.Raft.Wait r.f_out) 8:=by
  refine Spec.intro Go.Proofs.Try.func54 i54_ok (le_of_ble rfl) ?_
  show Wp Pg 45 7 i54_B ⟨argEnv _ i54_V,[],_,_⟩ (qf_54_v0 r)
  unfold zds at h
  unfold i54_B
  refine weakP [.movc 0 16] ?_
  refine Wp.seq ?_
  replace h:=bndS h; obtain ⟨r0,g1,h⟩:=h
  refine drawP [] mixed (clsC 13 (tab_cons (zoj g1) (tab_nil _)) (clsN _)) (seqN (Wp.seq ?_))
  replace h:=bndS h; obtain ⟨r0_1,g2,h⟩:=h
  replace h:=bndS h; obtain ⟨e,g3,h⟩:=h
  have:=ias_ownL (n:=1) (id:=5) (ex:=true) (k:=.i64) g3 rfl
  have:=ld_get (c:=(ci .i64)) g3
  have:=set_get (ci .i64) m.Raft.Match (IntKind.i64.wrap (m.Raft.Id - (1:Int))) r0_1
  try simp only [EV,EVt, *] at this
  refine drawP [] mixed (clsC 16 (tab_cons (zbh g2) (tab_nil _)) (clsN _)) (seqN (Wp.seq (Wp.reg ?_)))
  replace h:=bndS h; obtain ⟨r0_2,g4,h⟩:=h
  refine lastF (tab_cons (zot g4) (tab_nil _)) (seqN (Wp.reg ?_))
  replace h:=bndS h; obtain ⟨r0_3,g5,h⟩:=h
  replace h:=retS h; subst h
  refine lastF (tab_cons (zoq g5) (tab_nil _)) ?_
  exact finW [.kill [0,1],.drop [1],.tidy]
noncomputable abbrev qf_71_v0(r:Tmember):Ex→St→Prop:=FinQ 7 [] (.tup []) (zkr r.Raft.Id r.Raft.N r.Raft.Term r.Raft.Vote r.Raft.Role r.Raft.Lead r.Raft.Log.Base r.Raft.Log.BaseTerm r.Raft.Log.Entries r.Raft.Commit r.Raft.Snap r.Raft.Granted r.Raft.Next r.Raft.Match r.Raft.Clock r.Raft.Wait r.f_out) 11
noncomputable abbrev zkv(r0:Tmember)(rec0:Int→(List Int)→Option Tmember)(r:Tmember):Prop:=∀ {v49:Int} {zc:(List Int)},rec0 v49 zc=some r→LWp Pg 69 7 i71_L0 ⟨[(0,.ptr 0 0),(2,.bad),(48,.int .i64 ((r0.Raft.N.toNat:Nat):Int)),(49,.int .i64 v49),(50,.bad)],[],(zpk r0.Raft.Id r0.Raft.N r0.Raft.Term r0.Raft.Vote (3:Int) r0.Raft.Lead r0.Raft.Log.Base r0.Raft.Log.BaseTerm r0.Raft.Log.Entries r0.Raft.Commit r0.Raft.Snap r0.Raft.Granted zc (List.replicate r0.Raft.N.toNat (0:Int)) (0:Int) r0.Raft.Wait r0.f_out),12⟩ (blockQ 0 (seqQ Pg 69 7 (.reg none i71_R8) (qf_71_v0 r)))
theorem zod{r0:Tmember}{zx:(List Int)}{r:Tmember} (h:zdb r0 zx=some r):Wp Pg 69 7 (.reg none i71_R8) ⟨[(0,.ptr 0 0),(2,.bad),(48,.bad),(49,.bad),(50,.bad)],[],(zpk r0.Raft.Id r0.Raft.N r0.Raft.Term r0.Raft.Vote (3:Int) r0.Raft.Lead r0.Raft.Log.Base r0.Raft.Log.BaseTerm r0.Raft.Log.Entries r0.Raft.Commit r0.Raft.Snap r0.Raft.Granted zx (List.replicate r0.Raft.N.toNat (0:Int)) (0:Int) r0.Raft.Wait r0.f_out),12⟩ (qf_71_v0 r):=by
  unfold zdb at h
  refine Wp.reg ?_
  replace h:=bndS h; obtain ⟨r0_2,g6,h⟩:=h
  replace h:=retS h; subst h
  refine lastF (tab_cons (zll g6) (tab_nil _)) ?_
  exact finW [.kill [0],.tidy]
theorem znl{r0:Tmember}{r:Tmember} {zfc:Int→(List Int)→Option Tmember}(zmu:zkv r0 zfc r){v49:Int}{zc:(List Int)}(h:zcl r0 zfc v49 zc=some r):LWp Pg 69 7 i71_L0 ⟨[(0,.ptr 0 0),(2,.bad),(48,.int .i64 ((r0.Raft.N.toNat:Nat):Int)),(49,.int .i64 v49),(50,.bad)],[],(zpk r0.Raft.Id r0.Raft.N r0.Raft.Term r0.Raft.Vote (3:Int) r0.Raft.Lead r0.Raft.Log.Base r0.Raft.Log.BaseTerm r0.Raft.Log.Entries r0.Raft.Commit r0.Raft.Snap r0.Raft.Granted zc (List.replicate r0.Raft.N.toNat (0:Int)) (0:Int) r0.Raft.Wait r0.f_out),12⟩ (blockQ 0 (seqQ Pg 69 7 (.reg none i71_R8) (qf_71_v0 r))):=by
  unfold zcl at h
  refine LWp.stepC i71_L0.eq_1 ?_
  refine Wp.seq (regP (seqN (Wp.seq ?_)))
  replace h:=ifS h; rcases h with ⟨g3,h⟩ | ⟨g3,h⟩
  ·refine condTP (Wp.skip (seqN (Wp.seq (Wp.block (Wp.seq ?_)))))
   refine regP (seqN ?_)
   replace h:=bndS h; obtain ⟨r0_1,g4,h⟩:=h
   replace h:=bndS h; obtain ⟨e,g5,h⟩:=h
   have:=ias_ownL (n:=1) (id:=9) (ex:=true) (k:=.i64) g5 rfl
   have:=ld_get (c:=(ci .i64)) g5
   have:=set_get (ci .i64) zc v49 (IntKind.i64.wrap (r0_1 + (1:Int)))
   try simp only [EV,EVt, *] at this
   refine drawP [] mixed (clsC 11 (tab_cons (zbh g4) (tab_nil _)) (clsN _)) (blockN (seqN ?_))
   refine regP (loopN ?_)
   exact jumpL [.kill [2,50],.tidy] (zmu h)
  ·refine condFP (Wp.out (seqO (loopO (blockO (seqN ?_)))))
   exact jumpK [.kill [48,49,50]] (zod h)
theorem zoe{r0:Tmember}{r:Tmember}:∀ (n:Nat),zkv r0 (zw r0 n) r:=by
  intro n
  induction n with
  | zero=>intro v49 zc h; unfold zw at h; cases h
  | succ n ih=>intro v49 zc h; unfold zw at h; exact znl ih h
theorem zlw{m:Tmember}{r:Tmember} (h:zcd m=some r):Spec Pg 71 [.ptr 0 0] (hp80 m.Raft.Id m.Raft.N m.Raft.Term m.Raft.Vote m.Raft.Role m.Raft.Lead m.Raft.Log.Base m.Raft.Log.BaseTerm m.Raft.Log.Entries m.Raft.Commit m.Raft.Snap m.Raft.Granted m.Raft.Next m.Raft.Match m.Raft.Clock m.Raft.Wait m.f_out) 7 (.tup []) (zkr r.Raft.Id r.Raft.N r.Raft.Term r.Raft.Vote r.Raft.Role r.Raft.Lead r.Raft.Log.Base r.Raft.Log.BaseTerm r.Raft.Log.Entries r.Raft.Commit r.Raft.Snap r.Raft.Granted r.Raft.Next r.Raft.Match r.Raft.Clock r.Raft.Wait r.f_out) 11:=by
  refine Spec.intro Go.Proofs.Try.func71 i71_ok (le_of_ble rfl) ?_
  show Wp Pg 69 7 i71_B ⟨argEnv _ i71_V,[],_,_⟩ (qf_71_v0 r)
  unfold zcd at h
  unfold i71_B
  refine weakP [.movc 0 11,.movc 0 12,.movc 0 13,.movc 0 16,.movc 0 8] ?_
  refine Wp.seq ?_
  replace h:=bndS h; obtain ⟨r0,g1,h⟩:=h
  refine drawP [66] mixed (clsC 11 (tab_cons (zkd g1) (tab_nil _)) (clsN _)) (seqN (Wp.seq ?_))
  refine regP (seqN (Wp.seq ?_))
  replace h:=reqS h; obtain ⟨g2,h⟩:=h
  refine drawP [] mixed (clsN _) (seqN (Wp.seq (Wp.seq ?_)))
  refine regP (seqN (Wp.block (Wp.loop ?_)))
  exact jumpL [.kill [2,50],.tidy] (zoe _ h)
noncomputable abbrev qf_69_v0(r:Tmember):Ex→St→Prop:=FinQ 7 [] (.tup []) (zkr r.Raft.Id r.Raft.N r.Raft.Term r.Raft.Vote r.Raft.Role r.Raft.Lead r.Raft.Log.Base r.Raft.Log.BaseTerm r.Raft.Log.Entries r.Raft.Commit r.Raft.Snap r.Raft.Granted r.Raft.Next r.Raft.Match r.Raft.Clock r.Raft.Wait r.f_out) 11
theorem zpg{m:Tmember}{r:Tmember} (h:zek m=some r):Spec Pg 69 [.ptr 0 0] (hp80 m.Raft.Id m.Raft.N m.Raft.Term m.Raft.Vote m.Raft.Role m.Raft.Lead m.Raft.Log.Base m.Raft.Log.BaseTerm m.Raft.Log.Entries m.Raft.Commit m.Raft.Snap m.Raft.Granted m.Raft.Next m.Raft.Match m.Raft.Clock m.Raft.Wait m.f_out) 7 (.tup []) (zkr r.Raft.Id r.Raft.N r.Raft.Term r.Raft.Vote r.Raft.Role r.Raft.Lead r.Raft.Log.Base r.Raft.Log.BaseTerm r.Raft.Log.Entries r.Raft.Commit r.Raft.Snap r.Raft.Granted r.Raft.Next r.Raft.Match r.Raft.Clock r.Raft.Wait r.f_out) 11:=by
  refine Spec.intro Go.Proofs.Try.func69 i69_ok (le_of_ble rfl) ?_
  show Wp Pg 49 7 i69_B ⟨argEnv _ i69_V,[],_,_⟩ (qf_69_v0 r)
  unfold zek at h
  unfold i69_B
  refine weakP [.movc 0 11,.movc 0 12,.movc 0 13,.movc 0 16,.movc 0 8] ?_
  refine Wp.seq (regP (seqN (Wp.seq ?_)))
  replace h:=bndS h; obtain ⟨r0,g1,h⟩:=h
  refine drawP [66] mixed (clsC 7 (tab_cons (zkd g1) (tab_nil _)) (clsN _)) (seqN (Wp.seq ?_))
  refine drawP [] mixed (clsN _) (seqN (Wp.seq ?_))
  replace h:=reqS h; obtain ⟨g2,h⟩:=h
  refine drawP [] mixed (clsN _) (seqN (Wp.seq (Wp.seq ?_)))
  replace h:=bndS h; obtain ⟨r0_1,g3,h⟩:=h
  refine drawP [68] mixed (clsC 6 (tab_cons (zje g3) (tab_nil _)) (clsN _)) (seqN ?_)
  replace h:=ifS h; rcases h with ⟨g4,h⟩ | ⟨g4,h⟩
  ·refine condTP (Wp.seq (Wp.reg ?_))
   replace h:=bndS h; obtain ⟨r0_2,g5,h⟩:=h
   replace h:=retS h; subst h
   refine lastF (tab_cons (zlw g5) (tab_nil _)) (seqN (Wp.ret (seqR ?_)))
   exact finW [.kill [0,1,43],.tidy]
  ·refine condFP (Wp.skip (seqN (Wp.reg ?_)))
   replace h:=bndS h; obtain ⟨r0_3,g6,h⟩:=h
   replace h:=retS h; subst h
   refine lastF (tab_cons (zlh g6) (tab_nil _)) ?_
   exact finW [.cell 0 8 .frz,.kill [0,1,43],.tidy]
noncomputable abbrev qf_77(r:Int):Ex→St→Prop:=FinQ 0 [.tmp 2] (.int .i64 r) [] 0
theorem zsl{draw:Int}{r:Int} (h:zle draw=some r):Spec Pg 77 [.int .i64 draw] [] 0 (.int .i64 r) [] 0:=by
  refine Spec.intro Go.Proofs.Try.func77 i77_ok (le_of_ble rfl) ?_
  show Wp Pg 8 0 i77_B ⟨argEnv _ i77_V,[],_,_⟩ (qf_77 r)
  unfold zle at h
  unfold i77_B
  refine weakP [] ?_
  replace h:=retS h; subst h
  refine Wp.seq (regP (seqN (Wp.seq ?_)))
  refine regP (seqN (Wp.ret ?_))
  exact finP
noncomputable abbrev qf_52_v0(r:Tmember):Ex→St→Prop:=FinQ 7 [] (.tup []) (zkr r.Raft.Id r.Raft.N r.Raft.Term r.Raft.Vote r.Raft.Role r.Raft.Lead r.Raft.Log.Base r.Raft.Log.BaseTerm r.Raft.Log.Entries r.Raft.Commit r.Raft.Snap r.Raft.Granted r.Raft.Next r.Raft.Match r.Raft.Clock r.Raft.Wait r.f_out) 11
theorem zpy{draw:Int}{m:Tmember}{r:Tmember} (h:zfm draw m=some r):Spec Pg 52 [.ptr 0 0,.int .i64 draw] (hp30 m.Raft.Id m.Raft.N m.Raft.Term m.Raft.Vote m.Raft.Role m.Raft.Lead m.Raft.Log.Base m.Raft.Log.BaseTerm m.Raft.Log.Entries m.Raft.Commit m.Raft.Snap m.Raft.Granted m.Raft.Next m.Raft.Match m.Raft.Clock m.Raft.Wait m.f_out) 7 (.tup []) (zkr r.Raft.Id r.Raft.N r.Raft.Term r.Raft.Vote r.Raft.Role r.Raft.Lead r.Raft.Log.Base r.Raft.Log.BaseTerm r.Raft.Log.Entries r.Raft.Commit r.Raft.Snap r.Raft.Granted r.Raft.Next r.Raft.Match r.Raft.Clock r.Raft.Wait r.f_out) 11:=by
  refine Spec.intro Go.Proofs.Try.func52 i52_ok (le_of_ble rfl) ?_
  show Wp Pg 47 7 i52_B ⟨argEnv _ i52_V,[],_,_⟩ (qf_52_v0 r)
  unfold zfm at h
  unfold i52_B
  refine weakP [.movc 0 11,.movc 0 12,.movc 0 13,.movc 0 16,.movc 0 8] ?_
  refine Wp.seq (regP (seqN (Wp.seq ?_)))
  replace h:=bndS h; obtain ⟨r0,g1,h⟩:=h
  refine drawP [66] mixed (clsC 6 (tab_cons (zeq g1) (tab_nil _)) (clsN _)) (seqN (Wp.seq ?_))
  replace h:=bndS h; obtain ⟨r0_1,g2,h⟩:=h
  refine drawP [] mixed (clsC 4 (tab_cons (zsl g2) (tab_nil _)) (clsN _)) (seqN (Wp.seq ?_))
  replace h:=reqS h; obtain ⟨g3,h⟩:=h
  refine drawP [] mixed (clsN _) (seqN (Wp.seq (Wp.seq ?_)))
  replace h:=bndS h; obtain ⟨r0_2,g4,h⟩:=h
  refine drawP [68] mixed (clsC 6 (tab_cons (zje g4) (tab_nil _)) (clsN _)) (seqN ?_)
  replace h:=ifS h; rcases h with ⟨g5,h⟩ | ⟨g5,h⟩
  ·refine condTP (Wp.seq (Wp.reg ?_))
   replace h:=bndS h; obtain ⟨r0_3,g6,h⟩:=h
   replace h:=retS h; subst h
   refine lastF (tab_cons (zpg g6) (tab_nil _)) (seqN (Wp.ret (seqR ?_)))
   exact finW [.kill [0,1,2,41],.tidy]
  ·refine condFP (Wp.skip (seqN (Wp.reg ?_)))
   replace h:=bndS h; obtain ⟨r0_4,g7,h⟩:=h
   replace h:=retS h; subst h
   refine lastF (tab_cons (zor g7) (tab_nil _)) ?_
   exact finW [.cell 0 8 .frz,.kill [0,1,2,41],.tidy]
noncomputable abbrev qf_53_v0(m:Tmember)(r:(TRaft × (List TMsg))):Ex→St→Prop:=FinQ 6 [.cell 2 true 16,.tmp 3] (.tup [.agg [.int .i64 r.1.Id,.int .i64 r.1.N,.int .i64 r.1.Term,.int .i64 r.1.Vote,.int .i64 r.1.Role,.int .i64 r.1.Lead,.int .i64 r.1.Log.Base,.int .i64 r.1.Log.BaseTerm,sl TEntry.c r.1.Log.Entries,.int .i64 r.1.Commit,.own 1 1 0 ((r.1.Snap).length) false,.own 1 2 0 ((r.1.Granted).length) false,.own 1 3 0 ((r.1.Next).length) false,.own 1 4 0 ((r.1.Match).length) false,.int .i64 r.1.Clock,.int .i64 r.1.Wait],.own 11 5 0 ((r.2).length) false]) [(0,.box [.int .i64 m.Raft.Id,.int .i64 m.Raft.N,.int .i64 m.Raft.Term,.int .i64 m.Raft.Vote,.int .i64 m.Raft.Role,.int .i64 m.Raft.Lead,.int .i64 m.Raft.Log.Base,.int .i64 m.Raft.Log.BaseTerm,sl TEntry.c m.Raft.Log.Entries,.int .i64 m.Raft.Commit,.own 1 1 0 ((m.Raft.Snap).length) false,.own 1 2 0 ((m.Raft.Granted).length) false,.own 1 3 0 ((m.Raft.Next).length) false,.own 1 4 0 ((m.Raft.Match).length) false,.int .i64 m.Raft.Clock,.int .i64 m.Raft.Wait,.own 11 5 0 ((m.f_out).length) false]),(1,.arr 1 (List.map (ci .u8) r.1.Snap) 0),(2,.arr 1 (List.map cb r.1.Granted) 0),(3,.arr 1 (List.map (ci .i64) r.1.Next) 0),(4,.arr 1 (List.map (ci .i64) r.1.Match) 0),(5,.arr 11 (List.map TMsg.c r.2) 0)] 6
theorem zjl{m:Tmember}{r:(TRaft × (List TMsg))} (h:zge m=some r):Spec Pg 53 [.ptr 0 0] (zng m.Raft.Id m.Raft.N m.Raft.Term m.Raft.Vote m.Raft.Role m.Raft.Lead m.Raft.Log.Base m.Raft.Log.BaseTerm m.Raft.Log.Entries m.Raft.Commit m.Raft.Snap m.Raft.Granted m.Raft.Next m.Raft.Match m.Raft.Clock m.Raft.Wait m.f_out) 6 (.tup [.agg [.int .i64 r.1.Id,.int .i64 r.1.N,.int .i64 r.1.Term,.int .i64 r.1.Vote,.int .i64 r.1.Role,.int .i64 r.1.Lead,.int .i64 r.1.Log.Base,.int .i64 r.1.Log.BaseTerm,sl TEntry.c r.1.Log.Entries,.int .i64 r.1.Commit,.own 1 1 0 ((r.1.Snap).length) false,.own 1 2 0 ((r.1.Granted).length) false,.own 1 3 0 ((r.1.Next).length) false,.own 1 4 0 ((r.1.Match).length) false,.int .i64 r.1.Clock,.int .i64 r.1.Wait],.own 11 5 0 ((r.2).length) false]) [(0,.box [.int .i64 m.Raft.Id,.int .i64 m.Raft.N,.int .i64 m.Raft.Term,.int .i64 m.Raft.Vote,.int .i64 m.Raft.Role,.int .i64 m.Raft.Lead,.int .i64 m.Raft.Log.Base,.int .i64 m.Raft.Log.BaseTerm,sl TEntry.c m.Raft.Log.Entries,.int .i64 m.Raft.Commit,.own 1 1 0 ((m.Raft.Snap).length) false,.own 1 2 0 ((m.Raft.Granted).length) false,.own 1 3 0 ((m.Raft.Next).length) false,.own 1 4 0 ((m.Raft.Match).length) false,.int .i64 m.Raft.Clock,.int .i64 m.Raft.Wait,.own 11 5 0 ((m.f_out).length) false]),(1,.arr 1 (List.map (ci .u8) r.1.Snap) 0),(2,.arr 1 (List.map cb r.1.Granted) 0),(3,.arr 1 (List.map (ci .i64) r.1.Next) 0),(4,.arr 1 (List.map (ci .i64) r.1.Match) 0),(5,.arr 11 (List.map TMsg.c r.2) 0)] 6:=by
  refine Spec.intro Go.Proofs.Try.func53 i53_ok (le_of_ble rfl) ?_
  show Wp Pg 12 6 i53_B ⟨argEnv _ i53_V,[],_,_⟩ (qf_53_v0 m r)
  unfold zge at h
  unfold i53_B
  refine weakP [] ?_
  replace h:=retS h; subst h
  refine Wp.seq (regP (seqN (Wp.seq ?_)))
  refine drawP [] mixed (clsN _) (seqN (Wp.ret ?_))
  exact finW [.kill [0],.tidy]
noncomputable abbrev qf_53_v1(m:Tmember)(r:(TRaft × (List TMsg))):Ex→St→Prop:=FinQ 7 [.cell 2 true 16,.tmp 3] (.tup [.agg [.int .i64 r.1.Id,.int .i64 r.1.N,.int .i64 r.1.Term,.int .i64 r.1.Vote,.int .i64 r.1.Role,.int .i64 r.1.Lead,.int .i64 r.1.Log.Base,.int .i64 r.1.Log.BaseTerm,.own 2 1 0 ((r.1.Log.Entries).length) false,.int .i64 r.1.Commit,.own 1 2 0 ((r.1.Snap).length) false,.own 1 3 0 ((r.1.Granted).length) false,.own 1 4 0 ((r.1.Next).length) false,.own 1 5 0 ((r.1.Match).length) false,.int .i64 r.1.Clock,.int .i64 r.1.Wait],.own 11 6 0 ((r.2).length) false]) [(0,.box [.int .i64 m.Raft.Id,.int .i64 m.Raft.N,.int .i64 m.Raft.Term,.int .i64 m.Raft.Vote,.int .i64 m.Raft.Role,.int .i64 m.Raft.Lead,.int .i64 m.Raft.Log.Base,.int .i64 m.Raft.Log.BaseTerm,.own 2 1 0 ((m.Raft.Log.Entries).length) false,.int .i64 m.Raft.Commit,.own 1 2 0 ((m.Raft.Snap).length) false,.own 1 3 0 ((m.Raft.Granted).length) false,.own 1 4 0 ((m.Raft.Next).length) false,.own 1 5 0 ((m.Raft.Match).length) false,.int .i64 m.Raft.Clock,.int .i64 m.Raft.Wait,.own 11 6 0 ((m.f_out).length) false]),(1,.arr 2 (List.map TEntry.c r.1.Log.Entries) 0),(2,.arr 1 (List.map (ci .u8) r.1.Snap) 0),(3,.arr 1 (List.map cb r.1.Granted) 0),(4,.arr 1 (List.map (ci .i64) r.1.Next) 0),(5,.arr 1 (List.map (ci .i64) r.1.Match) 0),(6,.arr 11 (List.map TMsg.c r.2) 0)] 7
theorem zof{m:Tmember}{r:(TRaft × (List TMsg))} (h:ziy m=some r):Spec Pg 53 [.ptr 0 0] (hp30 m.Raft.Id m.Raft.N m.Raft.Term m.Raft.Vote m.Raft.Role m.Raft.Lead m.Raft.Log.Base m.Raft.Log.BaseTerm m.Raft.Log.Entries m.Raft.Commit m.Raft.Snap m.Raft.Granted m.Raft.Next m.Raft.Match m.Raft.Clock m.Raft.Wait m.f_out) 7 (.tup [.agg [.int .i64 r.1.Id,.int .i64 r.1.N,.int .i64 r.1.Term,.int .i64 r.1.Vote,.int .i64 r.1.Role,.int .i64 r.1.Lead,.int .i64 r.1.Log.Base,.int .i64 r.1.Log.BaseTerm,.own 2 1 0 ((r.1.Log.Entries).length) false,.int .i64 r.1.Commit,.own 1 2 0 ((r.1.Snap).length) false,.own 1 3 0 ((r.1.Granted).length) false,.own 1 4 0 ((r.1.Next).length) false,.own 1 5 0 ((r.1.Match).length) false,.int .i64 r.1.Clock,.int .i64 r.1.Wait],.own 11 6 0 ((r.2).length) false]) [(0,.box [.int .i64 m.Raft.Id,.int .i64 m.Raft.N,.int .i64 m.Raft.Term,.int .i64 m.Raft.Vote,.int .i64 m.Raft.Role,.int .i64 m.Raft.Lead,.int .i64 m.Raft.Log.Base,.int .i64 m.Raft.Log.BaseTerm,.own 2 1 0 ((m.Raft.Log.Entries).length) false,.int .i64 m.Raft.Commit,.own 1 2 0 ((m.Raft.Snap).length) false,.own 1 3 0 ((m.Raft.Granted).length) false,.own 1 4 0 ((m.Raft.Next).length) false,.own 1 5 0 ((m.Raft.Match).length) false,.int .i64 m.Raft.Clock,.int .i64 m.Raft.Wait,.own 11 6 0 ((m.f_out).length) false]),(1,.arr 2 (List.map TEntry.c r.1.Log.Entries) 0),(2,.arr 1 (List.map (ci .u8) r.1.Snap) 0),(3,.arr 1 (List.map cb r.1.Granted) 0),(4,.arr 1 (List.map (ci .i64) r.1.Next) 0),(5,.arr 1 (List.map (ci .i64) r.1.Match) 0),(6,.arr 11 (List.map TMsg.c r.2) 0)] 7:=by
  refine Spec.intro Go.Proofs.Try.func53 i53_ok (le_of_ble rfl) ?_
  show Wp Pg 12 7 i53_B ⟨argEnv _ i53_V,[],_,_⟩ (qf_53_v1 m r)
  unfold ziy at h
  unfold i53_B
  refine weakP [] ?_
  replace h:=retS h; subst h
  refine Wp.seq (regP (seqN (Wp.seq ?_)))
  refine drawP [] mixed (clsN _) (seqN (Wp.ret ?_))
  exact finW [.kill [0],.tidy]
noncomputable abbrev qf_80_v1(r:Tmember):Ex→St→Prop:=FinQ 6 [] (.tup []) (zng r.Raft.Id r.Raft.N r.Raft.Term r.Raft.Vote r.Raft.Role r.Raft.Lead r.Raft.Log.Base r.Raft.Log.BaseTerm r.Raft.Log.Entries r.Raft.Commit r.Raft.Snap r.Raft.Granted r.Raft.Next r.Raft.Match r.Raft.Clock r.Raft.Wait r.f_out) 6
theorem zgb{m:Tmember}{r0:Int}{v39:Bool}{r:Tmember} (h:zcn m r0 v39=some r):Wp Pg 45 6 (.cond (.t 39) (.reg none i80_R3) .skip) ⟨[(0,.ptr 0 0),(2,.int .i64 r0),(3,.bad),(4,.bad),(39,.bool v39)],[],(zng m.Raft.Id m.Raft.N m.Raft.Term m.Raft.Vote m.Raft.Role m.Raft.Lead m.Raft.Log.Base m.Raft.Log.BaseTerm m.Raft.Log.Entries m.Raft.Commit m.Raft.Snap m.Raft.Granted m.Raft.Next m.Raft.Match m.Raft.Clock m.Raft.Wait m.f_out),6⟩ (qf_80_v1 r):=by
  unfold zcn at h
  replace h:=ifS h; rcases h with ⟨g5,h⟩ | ⟨g5,h⟩
  ·replace h:=retS h; subst h
   refine condTP ?_
   refine regP ?_
   exact finW [.kill [0,2,39],.tidy]
  ·replace h:=retS h; subst h
   refine condFP (Wp.skip ?_)
   exact finW [.kill [0,2,39],.tidy]
theorem znm{m:Tmember}{r:Tmember} (h:zdz m=some r):Spec Pg 80 [.ptr 0 0] (zng m.Raft.Id m.Raft.N m.Raft.Term m.Raft.Vote m.Raft.Role m.Raft.Lead m.Raft.Log.Base m.Raft.Log.BaseTerm m.Raft.Log.Entries m.Raft.Commit m.Raft.Snap m.Raft.Granted m.Raft.Next m.Raft.Match m.Raft.Clock m.Raft.Wait m.f_out) 6 (.tup []) (zng r.Raft.Id r.Raft.N r.Raft.Term r.Raft.Vote r.Raft.Role r.Raft.Lead r.Raft.Log.Base r.Raft.Log.BaseTerm r.Raft.Log.Entries r.Raft.Commit r.Raft.Snap r.Raft.Granted r.Raft.Next r.Raft.Match r.Raft.Clock r.Raft.Wait r.f_out) 6:=by
  refine Spec.intro Go.Proofs.Try.func80 i80_ok (le_of_ble rfl) ?_
  show Wp Pg 45 6 i80_B ⟨argEnv _ i80_V,[],_,_⟩ (qf_80_v1 r)
  unfold zdz at h
  unfold i80_B
  refine weakP [] ?_
  refine Wp.seq (Wp.reg ?_)
  replace h:=bndS h; obtain ⟨r0,g1,h⟩:=h
  refine chunkT 6 (tab_cons (zkk g1) (tab_nil _)) ?_
  refine lastT (tab_nil _) (seqN (Wp.seq (Wp.reg ?_)))
  replace h:=bndS h; obtain ⟨r0_1,g2,h⟩:=h
  refine chunkT 7 (tab_cons (zcp g2) (tab_nil _)) ?_
  refine lastT (tab_nil _) (seqN (Wp.seq ?_))
  replace h:=ifS h; rcases h with ⟨g3,h⟩ | ⟨g3,h⟩
  ·replace h:=ifS h; rcases h with ⟨g4,h⟩ | ⟨g4,h⟩
   ·refine regP (seqN ?_)
    exact jumpK [.kill [3,4]] (zgb h)
   ·refine regP (seqN ?_)
    exact jumpK [.kill [3,4]] (zgb h)
  ·refine regP (seqN ?_)
   exact jumpK [.kill [3,4]] (zgb h)
noncomputable abbrev qf_54_v1(r:Tmember):Ex→St→Prop:=FinQ 7 [] (.tup []) (hp59 r.Raft.Id r.Raft.N r.Raft.Term r.Raft.Vote r.Raft.Role r.Raft.Lead r.Raft.Log.Base r.Raft.Log.BaseTerm r.Raft.Log.Entries r.Raft.Commit r.Raft.Snap r.Raft.Granted r.Raft.Next r.Raft.Match r.Raft.Clock r.Raft.Wait r.f_out) 8
theorem znn{data:(List Int)}{m:Tmember}{r:Tmember} (h:zfv data m=some r):Spec Pg 54 [.ptr 0 0,sl (ci .u8) data] (hp30 m.Raft.Id m.Raft.N m.Raft.Term m.Raft.Vote m.Raft.Role m.Raft.Lead m.Raft.Log.Base m.Raft.Log.BaseTerm m.Raft.Log.Entries m.Raft.Commit m.Raft.Snap m.Raft.Granted m.Raft.Next m.Raft.Match m.Raft.Clock m.Raft.Wait m.f_out) 7 (.tup []) (hp59 r.Raft.Id r.Raft.N r.Raft.Term r.Raft.Vote r.Raft.Role r.Raft.Lead r.Raft.Log.Base r.Raft.Log.BaseTerm r.Raft.Log.Entries r.Raft.Commit r.Raft.Snap r.Raft.Granted r.Raft.Next r.Raft.Match r.Raft.Clock r.Raft.Wait r.f_out) 8:=by
  refine Spec.intro Go.Proofs.Try.func54 i54_ok (le_of_ble rfl) ?_
  show Wp Pg 45 7 i54_B ⟨argEnv _ i54_V,[],_,_⟩ (qf_54_v1 r)
  unfold zfv at h
  unfold i54_B
  refine weakP [.movc 0 16] ?_
  refine Wp.seq ?_
  replace h:=bndS h; obtain ⟨r0,g1,h⟩:=h
  refine drawP [] mixed (clsC 13 (tab_cons (zoj g1) (tab_nil _)) (clsN _)) (seqN (Wp.seq ?_))
  replace h:=bndS h; obtain ⟨r0_1,g2,h⟩:=h
  replace h:=bndS h; obtain ⟨e,g3,h⟩:=h
  have:=ias_ownL (n:=1) (id:=5) (ex:=false) (k:=.i64) g3 rfl
  have:=ld_get (c:=(ci .i64)) g3
  have:=set_get (ci .i64) m.Raft.Match (IntKind.i64.wrap (m.Raft.Id - (1:Int))) r0_1
  try simp only [EV,EVt, *] at this
  refine drawP [] mixed (clsC 16 (tab_cons (zbh g2) (tab_nil _)) (clsN _)) (seqN (Wp.seq (Wp.reg ?_)))
  replace h:=bndS h; obtain ⟨r0_2,g4,h⟩:=h
  refine lastF (tab_cons (znm g4) (tab_nil _)) (seqN (Wp.reg ?_))
  replace h:=bndS h; obtain ⟨r0_3,g5,h⟩:=h
  replace h:=retS h; subst h
  refine lastF (tab_cons (zos g5) (tab_nil _)) ?_
  exact finW [.kill [0,1],.drop [1],.tidy]
noncomputable abbrev qf_76_v3(r:Tmember):Ex→St→Prop:=FinQ 7 [] (.tup []) (zpm r.Raft.Id r.Raft.N r.Raft.Term r.Raft.Vote r.Raft.Role r.Raft.Lead r.Raft.Log.Base r.Raft.Log.BaseTerm r.Raft.Log.Entries r.Raft.Commit r.Raft.Snap r.Raft.Granted r.Raft.Next r.Raft.Match r.Raft.Clock r.Raft.Wait r.f_out) 8
theorem zif{to0:Int}{x0:TMsg}{m:Tmember}{r:Tmember} (h:zca to0 x0 m=some r):Spec Pg 76 [.ptr 0 0,.int .i64 to0,.agg [.int .i64 x0.Kind,.int .i64 x0.Group,.int .i64 x0.From,.int .i64 x0.To,.int .i64 x0.Term,.int .i64 x0.At,.int .i64 x0.AtTerm,.int .i64 x0.Commit,.bool x0.Ok,.nil,.nil]] (hp30 m.Raft.Id m.Raft.N m.Raft.Term m.Raft.Vote m.Raft.Role m.Raft.Lead m.Raft.Log.Base m.Raft.Log.BaseTerm m.Raft.Log.Entries m.Raft.Commit m.Raft.Snap m.Raft.Granted m.Raft.Next m.Raft.Match m.Raft.Clock m.Raft.Wait m.f_out) 7 (.tup []) (zpm r.Raft.Id r.Raft.N r.Raft.Term r.Raft.Vote r.Raft.Role r.Raft.Lead r.Raft.Log.Base r.Raft.Log.BaseTerm r.Raft.Log.Entries r.Raft.Commit r.Raft.Snap r.Raft.Granted r.Raft.Next r.Raft.Match r.Raft.Clock r.Raft.Wait r.f_out) 8:=by
  refine Spec.intro Go.Proofs.Try.func76 i76_ok (le_of_ble rfl) ?_
  show Wp Pg 24 7 i76_B ⟨argEnv _ i76_V,[],_,_⟩ (qf_76_v3 r)
  unfold zca at h
  unfold i76_B
  refine weakP [.movc 0 16] ?_
  refine Wp.seq (regP (seqN (Wp.seq ?_)))
  refine regP (seqN ?_)
  replace h:=reqS h; obtain ⟨g1,h⟩:=h
  replace h:=retS h; subst h
  refine drawP [] mixed (clsN _) ?_
  exact finW [.kill [0,1,2,5],.tidy]
noncomputable abbrev qf_81(r:Bool):Ex→St→Prop:=FinQ 0 [.tmp 6] (.bool r) [] 0
theorem zmg{l:TLog}{term:Int}{at0:Int}{r:Bool} (h:zhr l term at0=some r):Spec Pg 81 [.agg [.int .i64 l.Base,.int .i64 l.BaseTerm,sl TEntry.c l.Entries],.int .i64 term,.int .i64 at0] [] 0 (.bool r) [] 0:=by
  refine Spec.intro Go.Proofs.Try.func81 i81_ok (le_of_ble rfl) ?_
  show Wp Pg 24 0 i81_B ⟨argEnv _ i81_V,[],_,_⟩ (qf_81 r)
  unfold zhr at h
  unfold i81_B
  refine weakP [] ?_
  refine Wp.seq (regP (seqN (Wp.seq (Wp.reg ?_))))
  replace h:=bndS h; obtain ⟨r0,g1,h⟩:=h
  refine chunkT 2 (tab_cons (ziu g1) (tab_nil _)) ?_
  refine lastT (tab_nil _) (seqN (Wp.seq (Wp.reg ?_)))
  replace h:=ifS h; rcases h with ⟨g2,h⟩ | ⟨g2,h⟩
  ·replace h:=retS h; subst h
   refine lastT (tab_nil _) (seqN (Wp.ret ?_))
   exact finP
  ·replace h:=ifS h; rcases h with ⟨g3,h⟩ | ⟨g3,h⟩
   ·replace h:=bndS h; obtain ⟨r0_1,g4,h⟩:=h
    replace h:=retS h; subst h
    refine chunkT 11 (tab_cons (zbh g4) (tab_nil _)) ?_
    refine lastT (tab_nil _) (seqN (Wp.ret ?_))
    exact finP
   ·replace h:=retS h; subst h
    refine lastT (tab_nil _) (seqN (Wp.ret ?_))
    exact finP
noncomputable abbrev qf_67_v0(r:Tmember):Ex→St→Prop:=FinQ 7 [] (.tup []) (zpm r.Raft.Id r.Raft.N r.Raft.Term r.Raft.Vote r.Raft.Role r.Raft.Lead r.Raft.Log.Base r.Raft.Log.BaseTerm r.Raft.Log.Entries r.Raft.Commit r.Raft.Snap r.Raft.Granted r.Raft.Next r.Raft.Match r.Raft.Clock r.Raft.Wait r.f_out) 8
theorem zkl{x0:TMsg}{m:Tmember}{ok_1:Bool}{term:Int}{r:Tmember} (h:zcq x0 m ok_1 term=some r):Wp Pg 67 7 (.reg none i67_R6) ⟨[(0,.ptr 0 0),(1,.bad),(3,.ptr 8 0),(4,.bad),(5,.bool ok_1),(6,.int .i64 term),(57,.bad)],[],(zqz m.Raft.Id m.Raft.N m.Raft.Term m.Raft.Vote m.Raft.Role m.Raft.Lead m.Raft.Log.Base m.Raft.Log.BaseTerm m.Raft.Log.Entries m.Raft.Commit m.Raft.Snap m.Raft.Granted m.Raft.Next m.Raft.Match m.Raft.Clock m.Raft.Wait m.f_out x0.Kind x0.Group x0.From x0.To x0.Term x0.At x0.AtTerm x0.Commit x0.Ok x0.Entries x0.Data),9⟩ (qf_67_v0 r):=by
  unfold zcq at h
  refine Wp.reg ?_
  replace h:=bndS h; obtain ⟨r0_1,g7,h⟩:=h
  replace h:=retS h; subst h
  refine lastF (tab_cons (zif g7) (tab_nil _)) ?_
  exact finW [.kill [0,3,5,6],.tidy]
theorem zhu{x0:TMsg}{m:Tmember}{ok:Bool}{r:Tmember} (h:zbv x0 m ok=some r):Wp Pg 67 7 (.seq (.reg none i67_R3) (.seq (.seq (.reg none i67_R4) (.cond (.t 57) (.reg none i67_R5) .skip)) (.reg none i67_R6))) ⟨[(0,.ptr 0 0),(1,.bad),(3,.ptr 8 0),(4,.bad),(5,.bool ok),(6,.bad),(57,.bad)],[],(zqz m.Raft.Id m.Raft.N m.Raft.Term m.Raft.Vote m.Raft.Role m.Raft.Lead m.Raft.Log.Base m.Raft.Log.BaseTerm m.Raft.Log.Entries m.Raft.Commit m.Raft.Snap m.Raft.Granted m.Raft.Next m.Raft.Match m.Raft.Clock m.Raft.Wait m.f_out x0.Kind x0.Group x0.From x0.To x0.Term x0.At x0.AtTerm x0.Commit x0.Ok x0.Entries x0.Data),9⟩ (qf_67_v0 r):=by
  unfold zbv at h
  refine Wp.seq (regP (seqN (Wp.seq (Wp.seq ?_))))
  refine regP (seqN ?_)
  replace h:=ifS h; rcases h with ⟨g6,h⟩ | ⟨g6,h⟩
  ·refine condTP ?_
   refine regP (seqN ?_)
   exact jumpK [.kill [57]] (zkl h)
  ·refine condFP (Wp.skip (seqN ?_))
   exact jumpK [.kill [57]] (zkl h)
theorem zhv{x0:TMsg}{m:Tmember}{free:Bool}{r:Tmember} (h:zbw x0 m free=some r):Wp Pg 67 7 (.seq (.reg (some []) i67_R2) (.seq (.reg none i67_R3) (.seq (.seq (.reg none i67_R4) (.cond (.t 57) (.reg none i67_R5) .skip)) (.reg none i67_R6)))) ⟨[(0,.ptr 0 0),(1,.bad),(3,.ptr 8 0),(4,.bool free),(5,.bad),(6,.bad),(57,.bad)],[],(zqz m.Raft.Id m.Raft.N m.Raft.Term m.Raft.Vote m.Raft.Role m.Raft.Lead m.Raft.Log.Base m.Raft.Log.BaseTerm m.Raft.Log.Entries m.Raft.Commit m.Raft.Snap m.Raft.Granted m.Raft.Next m.Raft.Match m.Raft.Clock m.Raft.Wait m.f_out x0.Kind x0.Group x0.From x0.To x0.Term x0.At x0.AtTerm x0.Commit x0.Ok x0.Entries x0.Data),9⟩ (qf_67_v0 r):=by
  unfold zbw at h
  refine Wp.seq ?_
  replace h:=ifS h; rcases h with ⟨g3,h⟩ | ⟨g3,h⟩
  ·replace h:=ifS h; rcases h with ⟨g4,h⟩ | ⟨g4,h⟩
   ·replace h:=bndS h; obtain ⟨r0,g5,h⟩:=h
    refine drawP [] mixed (clsC 21 (tab_cons (zmg g5) (tab_nil _)) (clsN _)) (seqN ?_)
    exact jumpK [.kill [4],.tidy] (zhu h)
   ·refine drawP [] mixed (clsN _) (seqN ?_)
    exact jumpK [.kill [4],.tidy] (zhu h)
  ·refine drawP [] mixed (clsN _) (seqN ?_)
   exact jumpK [.kill [4],.tidy] (zhu h)
theorem zph{x0:TMsg}{m:Tmember}{r:Tmember} (h:zel x0 m=some r):Spec Pg 67 [.ptr 0 0,.agg [.int .i64 x0.Kind,.int .i64 x0.Group,.int .i64 x0.From,.int .i64 x0.To,.int .i64 x0.Term,.int .i64 x0.At,.int .i64 x0.AtTerm,.int .i64 x0.Commit,.bool x0.Ok,sl TEntry.c x0.Entries,sl (ci .u8) x0.Data]] (hp30 m.Raft.Id m.Raft.N m.Raft.Term m.Raft.Vote m.Raft.Role m.Raft.Lead m.Raft.Log.Base m.Raft.Log.BaseTerm m.Raft.Log.Entries m.Raft.Commit m.Raft.Snap m.Raft.Granted m.Raft.Next m.Raft.Match m.Raft.Clock m.Raft.Wait m.f_out) 7 (.tup []) (zpm r.Raft.Id r.Raft.N r.Raft.Term r.Raft.Vote r.Raft.Role r.Raft.Lead r.Raft.Log.Base r.Raft.Log.BaseTerm r.Raft.Log.Entries r.Raft.Commit r.Raft.Snap r.Raft.Granted r.Raft.Next r.Raft.Match r.Raft.Clock r.Raft.Wait r.f_out) 8:=by
  refine Spec.intro Go.Proofs.Try.func67 i67_ok (le_of_ble rfl) ?_
  show Wp Pg 67 7 i67_B ⟨argEnv _ i67_V,[],_,_⟩ (qf_67_v0 r)
  unfold zel at h
  unfold i67_B
  refine weakP [.movc 0 16] ?_
  refine Wp.seq (regP (seqN (Wp.seq ?_)))
  replace h:=ifS h; rcases h with ⟨g1,h⟩ | ⟨g1,h⟩
  ·replace h:=ifS h; rcases h with ⟨g2,h⟩ | ⟨g2,h⟩
   ·refine regP (seqN ?_)
    exact jumpK [.kill [1,5,6,57],.tidy] (zhv h)
   ·refine regP (seqN ?_)
    exact jumpK [.kill [1,5,6,57],.tidy] (zhv h)
  ·refine regP (seqN ?_)
   exact jumpK [.kill [1,5,6,57],.tidy] (zhv h)
noncomputable abbrev qf_68_v1(r:(Bool × Tmember)):Ex→St→Prop:=FinQ 7 [.tmp 4] (.bool r.1) (hp30 r.2.Raft.Id r.2.Raft.N r.2.Raft.Term r.2.Raft.Vote r.2.Raft.Role r.2.Raft.Lead r.2.Raft.Log.Base r.2.Raft.Log.BaseTerm r.2.Raft.Log.Entries r.2.Raft.Commit r.2.Raft.Snap r.2.Raft.Granted r.2.Raft.Next r.2.Raft.Match r.2.Raft.Clock r.2.Raft.Wait r.2.f_out) 7
theorem zkm{who:Int}{m:Tmember}{r:(Bool × Tmember)} (h:zbx who m=some r):Spec Pg 68 [.ptr 0 0,.int .i64 who] (hp30 m.Raft.Id m.Raft.N m.Raft.Term m.Raft.Vote m.Raft.Role m.Raft.Lead m.Raft.Log.Base m.Raft.Log.BaseTerm m.Raft.Log.Entries m.Raft.Commit m.Raft.Snap m.Raft.Granted m.Raft.Next m.Raft.Match m.Raft.Clock m.Raft.Wait m.f_out) 7 (.bool r.1) (hp30 r.2.Raft.Id r.2.Raft.N r.2.Raft.Term r.2.Raft.Vote r.2.Raft.Role r.2.Raft.Lead r.2.Raft.Log.Base r.2.Raft.Log.BaseTerm r.2.Raft.Log.Entries r.2.Raft.Commit r.2.Raft.Snap r.2.Raft.Granted r.2.Raft.Next r.2.Raft.Match r.2.Raft.Clock r.2.Raft.Wait r.2.f_out) 7:=by
  refine Spec.intro Go.Proofs.Try.func68 i68_ok (le_of_ble rfl) ?_
  show Wp Pg 19 7 i68_B ⟨argEnv _ i68_V,[],_,_⟩ (qf_68_v1 r)
  unfold zbx at h
  unfold i68_B
  refine weakP [] ?_
  refine Wp.seq (regP (seqN (Wp.seq ?_)))
  replace h:=bndS h; obtain ⟨e,g1,h⟩:=h
  have:=ias_ownL (n:=1) (id:=3) (ex:=false) (k:=.i64) g1 rfl
  have:=ld_get (c:=cb) g1
  have:=set_get cb m.Raft.Granted (IntKind.i64.wrap (who - (1:Int))) true
  try simp only [EV,EVt, *] at this
  refine regP (seqN (Wp.seq (Wp.reg ?_)))
  replace h:=bndS h; obtain ⟨r0,g2,h⟩:=h
  replace h:=retS h; subst h
  refine chunkT 6 (tab_cons (zpf g2) (tab_nil _)) ?_
  refine lastT (tab_nil _) (seqN (Wp.ret ?_))
  exact finW [.kill [0,1],.tidy]
noncomputable abbrev qf_69_v1(r:Tmember):Ex→St→Prop:=FinQ 7 [] (.tup []) (zkr r.Raft.Id r.Raft.N r.Raft.Term r.Raft.Vote r.Raft.Role r.Raft.Lead r.Raft.Log.Base r.Raft.Log.BaseTerm r.Raft.Log.Entries r.Raft.Commit r.Raft.Snap r.Raft.Granted r.Raft.Next r.Raft.Match r.Raft.Clock r.Raft.Wait r.f_out) 11
theorem znr{m:Tmember}{r:Tmember} (h:zeo m=some r):Spec Pg 69 [.ptr 0 0] (hp30 m.Raft.Id m.Raft.N m.Raft.Term m.Raft.Vote m.Raft.Role m.Raft.Lead m.Raft.Log.Base m.Raft.Log.BaseTerm m.Raft.Log.Entries m.Raft.Commit m.Raft.Snap m.Raft.Granted m.Raft.Next m.Raft.Match m.Raft.Clock m.Raft.Wait m.f_out) 7 (.tup []) (zkr r.Raft.Id r.Raft.N r.Raft.Term r.Raft.Vote r.Raft.Role r.Raft.Lead r.Raft.Log.Base r.Raft.Log.BaseTerm r.Raft.Log.Entries r.Raft.Commit r.Raft.Snap r.Raft.Granted r.Raft.Next r.Raft.Match r.Raft.Clock r.Raft.Wait r.f_out) 11:=by
  refine Spec.intro Go.Proofs.Try.func69 i69_ok (le_of_ble rfl) ?_
  show Wp Pg 49 7 i69_B ⟨argEnv _ i69_V,[],_,_⟩ (qf_69_v1 r)
  unfold zeo at h
  unfold i69_B
  refine weakP [.movc 0 11,.movc 0 12,.movc 0 13,.movc 0 16,.movc 0 8] ?_
  refine Wp.seq (regP (seqN (Wp.seq ?_)))
  replace h:=bndS h; obtain ⟨r0,g1,h⟩:=h
  refine drawP [66] mixed (clsC 7 (tab_cons (zeq g1) (tab_nil _)) (clsN _)) (seqN (Wp.seq ?_))
  refine drawP [] mixed (clsN _) (seqN (Wp.seq ?_))
  replace h:=reqS h; obtain ⟨g2,h⟩:=h
  refine drawP [] mixed (clsN _) (seqN (Wp.seq (Wp.seq ?_)))
  replace h:=bndS h; obtain ⟨r0_1,g3,h⟩:=h
  refine drawP [68] mixed (clsC 6 (tab_cons (zje g3) (tab_nil _)) (clsN _)) (seqN ?_)
  replace h:=ifS h; rcases h with ⟨g4,h⟩ | ⟨g4,h⟩
  ·refine condTP (Wp.seq (Wp.reg ?_))
   replace h:=bndS h; obtain ⟨r0_2,g5,h⟩:=h
   replace h:=retS h; subst h
   refine lastF (tab_cons (zlw g5) (tab_nil _)) (seqN (Wp.ret (seqR ?_)))
   exact finW [.kill [0,1,43],.tidy]
  ·refine condFP (Wp.skip (seqN (Wp.reg ?_)))
   replace h:=bndS h; obtain ⟨r0_3,g6,h⟩:=h
   replace h:=retS h; subst h
   refine lastF (tab_cons (zlh g6) (tab_nil _)) ?_
   exact finW [.cell 0 8 .frz,.kill [0,1,43],.tidy]
noncomputable abbrev qf_70_v0(r:Tmember):Ex→St→Prop:=FinQ 7 [] (.tup []) (zpm r.Raft.Id r.Raft.N r.Raft.Term r.Raft.Vote r.Raft.Role r.Raft.Lead r.Raft.Log.Base r.Raft.Log.BaseTerm r.Raft.Log.Entries r.Raft.Commit r.Raft.Snap r.Raft.Granted r.Raft.Next r.Raft.Match r.Raft.Clock r.Raft.Wait r.f_out) 8
theorem zkw{x0:TMsg}{m:Tmember}{ok_1:Bool}{m_30 ze:Int}{r:Tmember} (h:zew x0 m ok_1 m_30 ze=some r):Wp Pg 73 7 (.reg (some []) i70_R4) ⟨[(0,.ptr 0 0),(1,.bad),(3,.ptr 8 0),(4,.bool ok_1),(51,.bad)],[],(zqz m.Raft.Id m.Raft.N m.Raft.Term m_30 m.Raft.Role m.Raft.Lead m.Raft.Log.Base m.Raft.Log.BaseTerm m.Raft.Log.Entries m.Raft.Commit m.Raft.Snap m.Raft.Granted m.Raft.Next m.Raft.Match ze m.Raft.Wait m.f_out x0.Kind x0.Group x0.From x0.To x0.Term x0.At x0.AtTerm x0.Commit x0.Ok x0.Entries x0.Data),9⟩ (qf_70_v0 r):=by
  unfold zew at h
  replace h:=bndS h; obtain ⟨r0_2,g8,h⟩:=h
  replace h:=retS h; subst h
  refine drawP [76] mixed (clsC 10 (tab_cons (zif g8) (tab_nil _)) (clsN _)) ?_
  exact finW [.kill [0,3,4],.tidy]
theorem zeb{x0:TMsg}{m:Tmember}{ok:Bool}{r:Tmember} (h:zah x0 m ok=some r):Wp Pg 73 7 (.seq (.seq (.reg none i70_R2) (.cond (.t 51) (.reg none i70_R3) .skip)) (.reg (some []) i70_R4)) ⟨[(0,.ptr 0 0),(1,.bad),(3,.ptr 8 0),(4,.bool ok),(51,.bad)],[],(zqz m.Raft.Id m.Raft.N m.Raft.Term m.Raft.Vote m.Raft.Role m.Raft.Lead m.Raft.Log.Base m.Raft.Log.BaseTerm m.Raft.Log.Entries m.Raft.Commit m.Raft.Snap m.Raft.Granted m.Raft.Next m.Raft.Match m.Raft.Clock m.Raft.Wait m.f_out x0.Kind x0.Group x0.From x0.To x0.Term x0.At x0.AtTerm x0.Commit x0.Ok x0.Entries x0.Data),9⟩ (qf_70_v0 r):=by
  unfold zah at h
  refine Wp.seq (Wp.seq (regP (seqN ?_)))
  replace h:=ifS h; rcases h with ⟨g7,h⟩ | ⟨g7,h⟩
  ·refine condTP ?_
   refine regP (seqN ?_)
   exact jumpK [.kill [51]] (zkw h)
  ·refine condFP (Wp.skip (seqN ?_))
   exact jumpK [.kill [51]] (zkw h)
theorem zpp{x0:TMsg}{m:Tmember}{r:Tmember} (h:zex x0 m=some r):Spec Pg 70 [.ptr 0 0,.agg [.int .i64 x0.Kind,.int .i64 x0.Group,.int .i64 x0.From,.int .i64 x0.To,.int .i64 x0.Term,.int .i64 x0.At,.int .i64 x0.AtTerm,.int .i64 x0.Commit,.bool x0.Ok,sl TEntry.c x0.Entries,sl (ci .u8) x0.Data]] (hp30 m.Raft.Id m.Raft.N m.Raft.Term m.Raft.Vote m.Raft.Role m.Raft.Lead m.Raft.Log.Base m.Raft.Log.BaseTerm m.Raft.Log.Entries m.Raft.Commit m.Raft.Snap m.Raft.Granted m.Raft.Next m.Raft.Match m.Raft.Clock m.Raft.Wait m.f_out) 7 (.tup []) (zpm r.Raft.Id r.Raft.N r.Raft.Term r.Raft.Vote r.Raft.Role r.Raft.Lead r.Raft.Log.Base r.Raft.Log.BaseTerm r.Raft.Log.Entries r.Raft.Commit r.Raft.Snap r.Raft.Granted r.Raft.Next r.Raft.Match r.Raft.Clock r.Raft.Wait r.f_out) 8:=by
  refine Spec.intro Go.Proofs.Try.func70 i70_ok (le_of_ble rfl) ?_
  show Wp Pg 73 7 i70_B ⟨argEnv _ i70_V,[],_,_⟩ (qf_70_v0 r)
  unfold zex at h
  unfold i70_B
  refine weakP [.movc 0 16] ?_
  refine Wp.seq (regP (seqN (Wp.seq ?_)))
  replace h:=ifS h; rcases h with ⟨g1,h⟩ | ⟨g1,h⟩
  ·replace h:=ifS h; rcases h with ⟨g2,h⟩ | ⟨g2,h⟩
   ·replace h:=ifS h; rcases h with ⟨g3,h⟩ | ⟨g3,h⟩
    ·replace h:=bndS h; obtain ⟨r0,g4,h⟩:=h
     refine drawP [] mixed (clsC 44 (tab_cons (zmg g4) (tab_nil _)) (clsN _)) (seqN ?_)
     exact jumpK [.kill [1,51],.tidy] (zeb h)
    ·replace h:=ifS h; rcases h with ⟨g5,h⟩ | ⟨g5,h⟩
     ·replace h:=bndS h; obtain ⟨r0_1,g6,h⟩:=h
      refine drawP [] mixed (clsC 44 (tab_cons (zmg g6) (tab_nil _)) (clsN _)) (seqN ?_)
      exact jumpK [.kill [1,51],.tidy] (zeb h)
     ·refine drawP [] mixed (clsN _) (seqN ?_)
      exact jumpK [.kill [1,51],.tidy] (zeb h)
   ·refine drawP [] mixed (clsN _) (seqN ?_)
    exact jumpK [.kill [1,51],.tidy] (zeb h)
  ·refine drawP [] mixed (clsN _) (seqN ?_)
   exact jumpK [.kill [1,51],.tidy] (zeb h)
noncomputable abbrev qf_71_v1(r:Tmember):Ex→St→Prop:=FinQ 7 [] (.tup []) (zkr r.Raft.Id r.Raft.N r.Raft.Term r.Raft.Vote r.Raft.Role r.Raft.Lead r.Raft.Log.Base r.Raft.Log.BaseTerm r.Raft.Log.Entries r.Raft.Commit r.Raft.Snap r.Raft.Granted r.Raft.Next r.Raft.Match r.Raft.Clock r.Raft.Wait r.f_out) 11
noncomputable abbrev zjq(r0:Tmember)(rec0:Int→(List Int)→Option Tmember)(r:Tmember):Prop:=∀ {v49:Int} {zc:(List Int)},rec0 v49 zc=some r→LWp Pg 69 7 i71_L0 ⟨[(0,.ptr 0 0),(2,.bad),(48,.int .i64 ((r0.Raft.N.toNat:Nat):Int)),(49,.int .i64 v49),(50,.bad)],[],(zpk r0.Raft.Id r0.Raft.N r0.Raft.Term r0.Raft.Vote (3:Int) r0.Raft.Lead r0.Raft.Log.Base r0.Raft.Log.BaseTerm r0.Raft.Log.Entries r0.Raft.Commit r0.Raft.Snap r0.Raft.Granted zc (List.replicate r0.Raft.N.toNat (0:Int)) (0:Int) r0.Raft.Wait r0.f_out),12⟩ (blockQ 0 (seqQ Pg 69 7 (.reg none i71_R8) (qf_71_v1 r)))
theorem zmv{r0:Tmember}{zx:(List Int)}{r:Tmember} (h:zhs r0 zx=some r):Wp Pg 69 7 (.reg none i71_R8) ⟨[(0,.ptr 0 0),(2,.bad),(48,.bad),(49,.bad),(50,.bad)],[],(zpk r0.Raft.Id r0.Raft.N r0.Raft.Term r0.Raft.Vote (3:Int) r0.Raft.Lead r0.Raft.Log.Base r0.Raft.Log.BaseTerm r0.Raft.Log.Entries r0.Raft.Commit r0.Raft.Snap r0.Raft.Granted zx (List.replicate r0.Raft.N.toNat (0:Int)) (0:Int) r0.Raft.Wait r0.f_out),12⟩ (qf_71_v1 r):=by
  unfold zhs at h
  refine Wp.reg ?_
  replace h:=bndS h; obtain ⟨r0_2,g6,h⟩:=h
  replace h:=retS h; subst h
  refine lastF (tab_cons (zll g6) (tab_nil _)) ?_
  exact finW [.kill [0],.tidy]
theorem zmh{r0:Tmember}{r:Tmember} {zdt:Int→(List Int)→Option Tmember}(zmd:zjq r0 zdt r){v49:Int}{zc:(List Int)}(h:zes r0 zdt v49 zc=some r):LWp Pg 69 7 i71_L0 ⟨[(0,.ptr 0 0),(2,.bad),(48,.int .i64 ((r0.Raft.N.toNat:Nat):Int)),(49,.int .i64 v49),(50,.bad)],[],(zpk r0.Raft.Id r0.Raft.N r0.Raft.Term r0.Raft.Vote (3:Int) r0.Raft.Lead r0.Raft.Log.Base r0.Raft.Log.BaseTerm r0.Raft.Log.Entries r0.Raft.Commit r0.Raft.Snap r0.Raft.Granted zc (List.replicate r0.Raft.N.toNat (0:Int)) (0:Int) r0.Raft.Wait r0.f_out),12⟩ (blockQ 0 (seqQ Pg 69 7 (.reg none i71_R8) (qf_71_v1 r))):=by
  unfold zes at h
  refine LWp.stepC i71_L0.eq_1 ?_
  refine Wp.seq (regP (seqN (Wp.seq ?_)))
  replace h:=ifS h; rcases h with ⟨g3,h⟩ | ⟨g3,h⟩
  ·refine condTP (Wp.skip (seqN (Wp.seq (Wp.block (Wp.seq ?_)))))
   refine regP (seqN ?_)
   replace h:=bndS h; obtain ⟨r0_1,g4,h⟩:=h
   replace h:=bndS h; obtain ⟨e,g5,h⟩:=h
   have:=ias_ownL (n:=1) (id:=9) (ex:=true) (k:=.i64) g5 rfl
   have:=ld_get (c:=(ci .i64)) g5
   have:=set_get (ci .i64) zc v49 (IntKind.i64.wrap (r0_1 + (1:Int)))
   try simp only [EV,EVt, *] at this
   refine drawP [] mixed (clsC 11 (tab_cons (zbh g4) (tab_nil _)) (clsN _)) (blockN (seqN ?_))
   refine regP (loopN ?_)
   exact jumpL [.kill [2,50],.tidy] (zmd h)
  ·refine condFP (Wp.out (seqO (loopO (blockO (seqN ?_)))))
   exact jumpK [.kill [48,49,50]] (zmv h)
theorem zmw{r0:Tmember}{r:Tmember}:∀ (n:Nat),zjq r0 (zav r0 n) r:=by
  intro n
  induction n with
  | zero=>intro v49 zc h; unfold zav at h; cases h
  | succ n ih=>intro v49 zc h; unfold zav at h; exact zmh ih h
theorem zog{m:Tmember}{r:Tmember} (h:zdc m=some r):Spec Pg 71 [.ptr 0 0] (hp30 m.Raft.Id m.Raft.N m.Raft.Term m.Raft.Vote m.Raft.Role m.Raft.Lead m.Raft.Log.Base m.Raft.Log.BaseTerm m.Raft.Log.Entries m.Raft.Commit m.Raft.Snap m.Raft.Granted m.Raft.Next m.Raft.Match m.Raft.Clock m.Raft.Wait m.f_out) 7 (.tup []) (zkr r.Raft.Id r.Raft.N r.Raft.Term r.Raft.Vote r.Raft.Role r.Raft.Lead r.Raft.Log.Base r.Raft.Log.BaseTerm r.Raft.Log.Entries r.Raft.Commit r.Raft.Snap r.Raft.Granted r.Raft.Next r.Raft.Match r.Raft.Clock r.Raft.Wait r.f_out) 11:=by
  refine Spec.intro Go.Proofs.Try.func71 i71_ok (le_of_ble rfl) ?_
  show Wp Pg 69 7 i71_B ⟨argEnv _ i71_V,[],_,_⟩ (qf_71_v1 r)
  unfold zdc at h
  unfold i71_B
  refine weakP [.movc 0 11,.movc 0 12,.movc 0 13,.movc 0 16,.movc 0 8] ?_
  refine Wp.seq ?_
  replace h:=bndS h; obtain ⟨r0,g1,h⟩:=h
  refine drawP [66] mixed (clsC 11 (tab_cons (zeq g1) (tab_nil _)) (clsN _)) (seqN (Wp.seq ?_))
  refine regP (seqN (Wp.seq ?_))
  replace h:=reqS h; obtain ⟨g2,h⟩:=h
  refine drawP [] mixed (clsN _) (seqN (Wp.seq (Wp.seq ?_)))
  refine regP (seqN (Wp.block (Wp.loop ?_)))
  exact jumpL [.kill [2,50],.tidy] (zmw _ h)
noncomputable abbrev qf_76_v4(r:Tmember):Ex→St→Prop:=FinQ 6 [] (.tup []) (zji r.Raft.Id r.Raft.N r.Raft.Term r.Raft.Vote r.Raft.Role r.Raft.Lead r.Raft.Log.Base r.Raft.Log.BaseTerm r.Raft.Log.Entries r.Raft.Commit r.Raft.Snap r.Raft.Granted r.Raft.Next r.Raft.Match r.Raft.Clock r.Raft.Wait r.f_out) 7
theorem zkx{to0:Int}{x0:TMsg}{m:Tmember}{r:Tmember} (h:zdd to0 x0 m=some r):Spec Pg 76 [.ptr 0 0,.int .i64 to0,.agg [.int .i64 x0.Kind,.int .i64 x0.Group,.int .i64 x0.From,.int .i64 x0.To,.int .i64 x0.Term,.int .i64 x0.At,.int .i64 x0.AtTerm,.int .i64 x0.Commit,.bool x0.Ok,.nil,.nil]] (zng m.Raft.Id m.Raft.N m.Raft.Term m.Raft.Vote m.Raft.Role m.Raft.Lead m.Raft.Log.Base m.Raft.Log.BaseTerm m.Raft.Log.Entries m.Raft.Commit m.Raft.Snap m.Raft.Granted m.Raft.Next m.Raft.Match m.Raft.Clock m.Raft.Wait m.f_out) 6 (.tup []) (zji r.Raft.Id r.Raft.N r.Raft.Term r.Raft.Vote r.Raft.Role r.Raft.Lead r.Raft.Log.Base r.Raft.Log.BaseTerm r.Raft.Log.Entries r.Raft.Commit r.Raft.Snap r.Raft.Granted r.Raft.Next r.Raft.Match r.Raft.Clock r.Raft.Wait r.f_out) 7:=by
  refine Spec.intro Go.Proofs.Try.func76 i76_ok (le_of_ble rfl) ?_
  show Wp Pg 24 6 i76_B ⟨argEnv _ i76_V,[],_,_⟩ (qf_76_v4 r)
  unfold zdd at h
  unfold i76_B
  refine weakP [.movc 0 16] ?_
  refine Wp.seq (regP (seqN (Wp.seq ?_)))
  refine regP (seqN ?_)
  replace h:=reqS h; obtain ⟨g1,h⟩:=h
  replace h:=retS h; subst h
  refine drawP [] mixed (clsN _) ?_
  exact finW [.kill [0,1,2,5],.tidy]
noncomputable abbrev qf_84_v0(r:(Bool × Tmember)):Ex→St→Prop:=FinQ 7 [.tmp 4] (.bool r.1) (zsw r.2.Raft.Id r.2.Raft.N r.2.Raft.Term r.2.Raft.Vote r.2.Raft.Role r.2.Raft.Lead r.2.Raft.Log.Base r.2.Raft.Log.BaseTerm r.2.Raft.Log.Entries r.2.Raft.Commit r.2.Raft.Snap r.2.Raft.Granted r.2.Raft.Next r.2.Raft.Match r.2.Raft.Clock r.2.Raft.Wait r.2.f_out) 11
theorem zky{x0:TMsg}{m:Tmember}{v20:Bool}{r:(Bool × Tmember)} (h:zde x0 m v20=some r):Wp Pg 41 7 (.cond (.t 20) (.seq (.reg (some []) i84_R2) (.seq (.reg none i84_R3) .ret)) .skip) ⟨[(0,.ptr 0 0),(1,.bad),(3,.ptr 11 0),(4,.bad),(20,.bool v20)],[],(zsz m.Raft.Id m.Raft.N m.Raft.Term m.Raft.Vote m.Raft.Role m.Raft.Lead m.Raft.Log.Base m.Raft.Log.BaseTerm m.Raft.Log.Entries m.Raft.Commit m.Raft.Snap m.Raft.Granted m.Raft.Next m.Raft.Match m.Raft.Clock m.Raft.Wait m.f_out x0.Kind x0.Group x0.From x0.To x0.Term x0.At x0.AtTerm x0.Commit x0.Ok x0.Entries x0.Data),12⟩ (seqQ Pg 41 7 (.seq (.reg none i84_R4) (.seq (.reg none i84_R5) (.seq (.reg none i84_R6) .ret))) (qf_84_v0 r)):=by
  unfold zde at h
  replace h:=ifS h; rcases h with ⟨g2,h⟩ | ⟨g2,h⟩
  ·refine condTP (Wp.seq ?_)
   replace h:=bndS h; obtain ⟨r0,g3,h⟩:=h
   replace h:=retS h; subst h
   refine drawP [76] mixed (clsC 9 (tab_cons (zif g3) (tab_nil _)) (clsN _)) (seqN (Wp.seq ?_))
   refine regP (seqN (Wp.ret (seqR ?_)))
   exact finW [.kill [0,3,20],.tidy]
  ·refine condFP (Wp.skip (seqN (Wp.seq (Wp.reg ?_))))
   replace h:=bndS h; obtain ⟨r0_1,g4,h⟩:=h
   replace h:=retS h; subst h
   refine lastF (tab_cons (zeq g4) (tab_nil _)) (seqN (Wp.seq ?_))
   refine regP (seqN (Wp.seq ?_))
   refine regP (seqN (Wp.ret ?_))
   exact finW [.kill [0,3,20],.tidy]
theorem zlx{x0:TMsg}{m:Tmember}{r:(Bool × Tmember)} (h:zey x0 m=some r):Spec Pg 84 [.ptr 0 0,.agg [.int .i64 x0.Kind,.int .i64 x0.Group,.int .i64 x0.From,.int .i64 x0.To,.int .i64 x0.Term,.int .i64 x0.At,.int .i64 x0.AtTerm,.int .i64 x0.Commit,.bool x0.Ok,sl TEntry.c x0.Entries,sl (ci .u8) x0.Data]] (hp30 m.Raft.Id m.Raft.N m.Raft.Term m.Raft.Vote m.Raft.Role m.Raft.Lead m.Raft.Log.Base m.Raft.Log.BaseTerm m.Raft.Log.Entries m.Raft.Commit m.Raft.Snap m.Raft.Granted m.Raft.Next m.Raft.Match m.Raft.Clock m.Raft.Wait m.f_out) 7 (.bool r.1) (zsw r.2.Raft.Id r.2.Raft.N r.2.Raft.Term r.2.Raft.Vote r.2.Raft.Role r.2.Raft.Lead r.2.Raft.Log.Base r.2.Raft.Log.BaseTerm r.2.Raft.Log.Entries r.2.Raft.Commit r.2.Raft.Snap r.2.Raft.Granted r.2.Raft.Next r.2.Raft.Match r.2.Raft.Clock r.2.Raft.Wait r.2.f_out) 11:=by
  refine Spec.intro Go.Proofs.Try.func84 i84_ok (le_of_ble rfl) ?_
  show Wp Pg 41 7 i84_B ⟨argEnv _ i84_V,[],_,_⟩ (qf_84_v0 r)
  unfold zey at h
  unfold i84_B
  refine weakP [.movc 0 11,.movc 0 12,.movc 0 13,.movc 0 16] ?_
  refine Wp.seq (regP (seqN (Wp.seq (Wp.seq ?_))))
  replace h:=ifS h; rcases h with ⟨g1,h⟩ | ⟨g1,h⟩
  ·refine drawP [] mixed (clsN _) (seqN ?_)
   exact jumpK [.kill [1,4],.tidy] (zky h)
  ·refine drawP [] mixed (clsN _) (seqN ?_)
   exact jumpK [.kill [1,4],.tidy] (zky h)
noncomputable abbrev qf_85(r:(TLog × Int × Bool)):Ex→St→Prop:=FinQ 0 [.cell 8 true 3,.tmp 9,.tmp 10] (.tup [.agg [.int .i64 r.1.Base,.int .i64 r.1.BaseTerm,sl TEntry.c r.1.Entries],.int .i64 r.2.1,.bool r.2.2]) [] 0
noncomputable abbrev zly(l:TLog)(r0_1:(Int × Bool))(rec0:Int→Int→Bool→Option (TLog × Int × Bool))(r:(TLog × Int × Bool)):Prop:=∀ {hint t:Int} {ok:Bool},rec0 hint t ok=some r→LWp Pg 141 0 i85_L0 ⟨[(0,.bad),(1,.bad),(2,.bad),(3,.bad),(4,.ptr 0 0),(8,.ptr 1 0),(9,.bad),(10,.bad),(11,.bad),(12,.int .i64 r0_1.1),(13,.bad),(14,.int .i64 hint),(15,.int .i64 t),(16,.bool ok),(17,.bad),(18,.bad),(19,.bad),(20,.bad),(24,.bad),(32,.bad),(51,.bad),(58,.bad),(78,.bad),(95,.bad),(96,.bad),(97,.bad),(98,.bad),(112,.bad),(121,.bad)],[],[(0,.box [.int .i64 l.Base,.int .i64 l.BaseTerm,sl TEntry.c l.Entries]),(1,.box [.int .i64 (0:Int),.int .i64 (0:Int),.nil])],2⟩ (blockQ 0 (seqQ Pg 141 0 (.seq (.reg (some [(1,4),(4,6)]) i85_R15) .ret) (seqQ Pg 141 0 (.seq (.reg none i85_R16) (.seq (.seq (.reg none i85_R17) (.block 2 (.loop i85_L1))) (.seq (.reg none i85_R26) .ret))) (qf_85 r))))
noncomputable abbrev zok(l:TLog)(at0_1:Int)(entries_1:(List TEntry))(r0_7:TLog)(rec0:Int→Option (TLog × Int × Bool))(r:(TLog × Int × Bool)):Prop:=∀ {v97:Int},rec0 v97=some r→LWp Pg 141 0 i85_L1 ⟨[(0,.bad),(1,.int .i64 at0_1),(2,.bad),(3,sl TEntry.c entries_1),(4,.ptr 0 0),(8,.ptr 1 0),(9,.bad),(10,.bad),(11,.bad),(12,.bad),(13,.bad),(14,.bad),(15,.bad),(16,.bad),(17,.ptr 2 0),(18,.bad),(19,.bad),(20,.bad),(24,.bad),(32,.bad),(51,.bad),(58,.bad),(78,.bad),(95,sl TEntry.c entries_1),(96,.int .i64 (entries_1.length:Int)),(97,.int .i64 v97),(98,.bad),(112,.bad),(121,.bad)],[],[(0,.box [.int .i64 l.Base,.int .i64 l.BaseTerm,sl TEntry.c l.Entries]),(1,.box [.int .i64 (0:Int),.int .i64 (0:Int),.nil]),(2,.box [.int .i64 r0_7.Base,.int .i64 r0_7.BaseTerm,.own 2 3 0 ((r0_7.Entries).length) false]),(3,.arr 2 (List.map TEntry.c r0_7.Entries) 0)],4⟩ (blockQ 2 (seqQ Pg 141 0 (.seq (.reg none i85_R26) .ret) (qf_85 r)))
theorem zol{at0_1:Int}{entries_1:(List TEntry)}{r0_7:TLog}{out_2_1:(List TEntry)}{r:(TLog × Int × Bool)} (h:zih at0_1 entries_1 r0_7 out_2_1=some r):Wp Pg 141 0 (.seq (.reg none i85_R26) .ret) ⟨[(0,.bad),(1,.int .i64 at0_1),(2,.bad),(3,sl TEntry.c entries_1),(4,.bad),(8,.ptr 0 0),(9,.bad),(10,.bad),(11,.bad),(12,.bad),(13,.bad),(14,.bad),(15,.bad),(16,.bad),(17,.ptr 1 0),(18,.bad),(19,.bad),(20,.bad),(24,.bad),(32,.bad),(51,.bad),(58,.bad),(78,.bad),(95,.bad),(96,.bad),(97,.bad),(98,.bad),(112,.bad),(121,.bad)],[],[(0,.box [.int .i64 (0:Int),.int .i64 (0:Int),.nil]),(1,.box [.int .i64 r0_7.Base,.int .i64 r0_7.BaseTerm,.own 2 2 0 out_2_1.length false]),(2,.arr 2 (List.map TEntry.c out_2_1) 0)],3⟩ (qf_85 r):=by
  unfold zih at h
  replace h:=retS h; subst h
  refine Wp.seq (regP (seqN ?_))
  refine weakP [.cell 8 2 .frz] (Wp.ret ?_)
  exact finP
theorem zom{at0_1:Int}{entries_1:(List TEntry)}{r0_7:TLog}{v97:Int}{out_2:(List TEntry)}{r:(TLog × Int × Bool)} (h:zii at0_1 entries_1 r0_7 v97 out_2=some r):Wp Pg 141 0 (.seq (.reg (some [(1,5)]) i85_R24) (.out 2)) ⟨[(0,.bad),(1,.int .i64 at0_1),(2,.bad),(3,sl TEntry.c entries_1),(4,.bad),(8,.ptr 0 0),(9,.bad),(10,.bad),(11,.bad),(12,.bad),(13,.bad),(14,.bad),(15,.bad),(16,.bad),(17,.ptr 1 0),(18,.int .i64 v97),(19,.bad),(20,.bad),(24,.bad),(32,.bad),(51,.bad),(58,.bad),(78,.bad),(95,.bad),(96,.bad),(97,.bad),(98,.bad),(112,.bad),(121,.bad)],[],[(0,.box [.int .i64 (0:Int),.int .i64 (0:Int),.nil]),(1,.box [.int .i64 r0_7.Base,.int .i64 r0_7.BaseTerm,.own 2 2 0 out_2.length false]),(2,.arr 2 (List.map TEntry.c out_2) 0)],3⟩ (blockQ 3 (seqQ Pg 141 0 (.reg none i85_R25) (loopQ Pg 141 0 i85_L1 (blockQ 2 (seqQ Pg 141 0 (.seq (.reg none i85_R26) .ret) (qf_85 r)))))):=by
  unfold zii at h
  refine Wp.seq ?_
  replace h:=bndS h; obtain ⟨l_3,g23,h⟩:=h
  replace h:=bndS h; obtain ⟨r0_8,g24,h⟩:=h
  replace h:=reqS h; obtain ⟨g25,h⟩:=h
  refine drawP [60] mixed (clsC 5 (tab_cons (zjx g24) (tab_nil _)) (clsN _)) (seqN (Wp.out (blockP rfl (seqO (loopO (blockO (seqN ?_)))))))
  exact jumpK [.kill [18],.tidy] (zol h)
theorem zrf{l:TLog}{at0_1:Int}{entries_1:(List TEntry)}{r0_7:TLog}{r:(TLog × Int × Bool)} {zit:Int→Option (TLog × Int × Bool)}(zqo:zok l at0_1 entries_1 r0_7 zit r){v97:Int}(h:zim l at0_1 entries_1 r0_7 zit v97=some r):LWp Pg 141 0 i85_L1 ⟨[(0,.bad),(1,.int .i64 at0_1),(2,.bad),(3,sl TEntry.c entries_1),(4,.ptr 0 0),(8,.ptr 1 0),(9,.bad),(10,.bad),(11,.bad),(12,.bad),(13,.bad),(14,.bad),(15,.bad),(16,.bad),(17,.ptr 2 0),(18,.bad),(19,.bad),(20,.bad),(24,.bad),(32,.bad),(51,.bad),(58,.bad),(78,.bad),(95,sl TEntry.c entries_1),(96,.int .i64 (entries_1.length:Int)),(97,.int .i64 v97),(98,.bad),(112,.bad),(121,.bad)],[],[(0,.box [.int .i64 l.Base,.int .i64 l.BaseTerm,sl TEntry.c l.Entries]),(1,.box [.int .i64 (0:Int),.int .i64 (0:Int),.nil]),(2,.box [.int .i64 r0_7.Base,.int .i64 r0_7.BaseTerm,.own 2 3 0 ((r0_7.Entries).length) false]),(3,.arr 2 (List.map TEntry.c r0_7.Entries) 0)],4⟩ (blockQ 2 (seqQ Pg 141 0 (.seq (.reg none i85_R26) .ret) (qf_85 r))):=by
  unfold zim at h
  refine LWp.stepC i85_L1.eq_1 ?_
  refine Wp.seq (regP (seqN (Wp.seq ?_)))
  replace h:=ifS h; rcases h with ⟨g17,h⟩ | ⟨g17,h⟩
  ·refine condTP (Wp.skip (seqN (Wp.seq (Wp.block (Wp.seq ?_)))))
   replace h:=bndS h; obtain ⟨e,g18,h⟩:=h
   refine regP (seqN (Wp.seq ?_))
   refine regP (seqN (Wp.seq (Wp.seq ?_)))
   refine regP (seqN ?_)
   replace h:=ifS h; rcases h with ⟨g19,h⟩ | ⟨g19,h⟩
   ·refine condTP (Wp.seq (Wp.seq ?_))
    replace h:=bndS h; obtain ⟨e_1,g20,h⟩:=h
    have:=ias_ownL (n:=2) (id:=3) (ex:=false) (k:=.i64) g20 rfl
    have:=ld_get (c:=TEntry.c) g20
    refine drawP [] mixed (clsN _) (seqN ?_)
    replace h:=ifS h; rcases h with ⟨g21,h⟩ | ⟨g21,h⟩
    ·refine condTP (Wp.out (seqO (seqO (blockO (seqN ?_)))))
     refine regP (loopN ?_)
     exact jumpL [.kill [18,19,20,98,112,121],.tidy] (zqo h)
    ·refine condFP (Wp.skip (seqN ?_))
     replace h:=bndS h; obtain ⟨l_2,g22,h⟩:=h
     have:=sll_ownH (n:=2) (id:=3) (k:=.i64) g22
     have:=cut_map (c:=TEntry.c) g22
     refine regP (seqN ?_)
     exact jumpK [.cut 3 l_2.length,.kill [4,19,20,95,96,97,98,112,121],.tidy] (zom h)
   ·refine condFP (Wp.skip (seqN ?_))
    exact jumpK [.kill [4,19,20,95,96,97,98,112],.tidy] (zom h)
  ·refine condFP (Wp.out (seqO (loopO (blockO (seqN ?_)))))
   exact jumpK [.kill [4,95,96,97,98],.tidy] (zol h)
theorem zsa{l:TLog}{at0_1:Int}{entries_1:(List TEntry)}{r0_7:TLog}{r:(TLog × Int × Bool)}:∀ (n:Nat),zok l at0_1 entries_1 r0_7 (zfq l at0_1 entries_1 r0_7 n) r:=by
  intro n
  induction n with
  | zero=>intro v97 h; unfold zfq at h; cases h
  | succ n ih=>intro v97 h; unfold zfq at h; exact zrf ih h
theorem zsb{l:TLog}{hint_1:Int}{r:(TLog × Int × Bool)} (h:zjm l hint_1=some r):Wp Pg 141 0 (.seq (.reg (some [(1,4),(4,6)]) i85_R15) .ret) ⟨[(0,.bad),(1,.bad),(2,.bad),(3,.bad),(4,.ptr 0 0),(8,.ptr 1 0),(9,.bad),(10,.bad),(11,.bad),(12,.bad),(13,.bad),(14,.int .i64 hint_1),(15,.bad),(16,.bad),(17,.bad),(18,.bad),(19,.bad),(20,.bad),(24,.bad),(32,.bad),(51,.bad),(58,.bad),(78,.bad),(95,.bad),(96,.bad),(97,.bad),(98,.bad),(112,.bad),(121,.bad)],[],[(0,.box [.int .i64 l.Base,.int .i64 l.BaseTerm,sl TEntry.c l.Entries]),(1,.box [.int .i64 (0:Int),.int .i64 (0:Int),.nil])],2⟩ (seqQ Pg 141 0 (.seq (.reg none i85_R16) (.seq (.seq (.reg none i85_R17) (.block 2 (.loop i85_L1))) (.seq (.reg none i85_R26) .ret))) (qf_85 r)):=by
  unfold zjm at h
  refine Wp.seq ?_
  replace h:=bndS h; obtain ⟨r0_6,g15,h⟩:=h
  replace h:=retS h; subst h
  refine drawP [34] mixed (clsC 1 (tab_cons (zgr g15) (tab_nil _)) (clsN _)) (seqN ?_)
  refine weakP [.cell 8 2 .frz] (Wp.ret (seqR ?_))
  exact finP
theorem zlz{r0_1:(Int × Bool)}{l:TLog}{hint:Int}{v78:Bool}{r:(TLog × Int × Bool)}{zbb:Int→Int→Bool→Option (TLog × Int × Bool)}(zgi:zly l r0_1 zbb r)(h:zbg zbb l hint v78=some r):Wp Pg 141 0 (.cond (.t 78) .skip (.out 0)) ⟨[(0,.bad),(1,.bad),(2,.bad),(3,.bad),(4,.ptr 0 0),(8,.ptr 1 0),(9,.bad),(10,.bad),(11,.bad),(12,.int .i64 r0_1.1),(13,.bad),(14,.int .i64 hint),(15,.bad),(16,.bad),(17,.bad),(18,.bad),(19,.bad),(20,.bad),(24,.bad),(32,.bad),(51,.bad),(58,.bad),(78,.bool v78),(95,.bad),(96,.bad),(97,.bad),(98,.bad),(112,.bad),(121,.bad)],[],[(0,.box [.int .i64 l.Base,.int .i64 l.BaseTerm,sl TEntry.c l.Entries]),(1,.box [.int .i64 (0:Int),.int .i64 (0:Int),.nil])],2⟩ (seqQ Pg 141 0 (.seq (.block 1 (.reg none i85_R13)) (.reg none i85_R14)) (loopQ Pg 141 0 i85_L0 (blockQ 0 (seqQ Pg 141 0 (.seq (.reg (some [(1,4),(4,6)]) i85_R15) .ret) (seqQ Pg 141 0 (.seq (.reg none i85_R16) (.seq (.seq (.reg none i85_R17) (.block 2 (.loop i85_L1))) (.seq (.reg none i85_R26) .ret))) (qf_85 r)))))):=by
  unfold zbg at h
  replace h:=ifS h; rcases h with ⟨g13,h⟩ | ⟨g13,h⟩
  ·refine condTP (Wp.skip (seqN (Wp.seq (Wp.block ?_))))
   refine regP (blockN (seqN (Wp.reg ?_)))
   replace h:=bndS h; obtain ⟨r0_5,g14,h⟩:=h
   refine chunkT 3 (tab_cons (zcp g14) (tab_nil _)) ?_
   refine lastT (tab_nil _) (loopN ?_)
   exact jumpL [.kill [78]] (zgi h)
  ·refine condFP (Wp.out (seqO (loopO (blockO (seqN ?_)))))
   exact jumpK [.kill [12,78]] (zsb h)
theorem zrg{l:TLog}{r0_1:(Int × Bool)}{r:(TLog × Int × Bool)} {zbb:Int→Int→Bool→Option (TLog × Int × Bool)}(zgi:zly l r0_1 zbb r){hint t:Int}{ok:Bool}(h:zgl l r0_1 zbb hint t ok=some r):LWp Pg 141 0 i85_L0 ⟨[(0,.bad),(1,.bad),(2,.bad),(3,.bad),(4,.ptr 0 0),(8,.ptr 1 0),(9,.bad),(10,.bad),(11,.bad),(12,.int .i64 r0_1.1),(13,.bad),(14,.int .i64 hint),(15,.int .i64 t),(16,.bool ok),(17,.bad),(18,.bad),(19,.bad),(20,.bad),(24,.bad),(32,.bad),(51,.bad),(58,.bad),(78,.bad),(95,.bad),(96,.bad),(97,.bad),(98,.bad),(112,.bad),(121,.bad)],[],[(0,.box [.int .i64 l.Base,.int .i64 l.BaseTerm,sl TEntry.c l.Entries]),(1,.box [.int .i64 (0:Int),.int .i64 (0:Int),.nil])],2⟩ (blockQ 0 (seqQ Pg 141 0 (.seq (.reg (some [(1,4),(4,6)]) i85_R15) .ret) (seqQ Pg 141 0 (.seq (.reg none i85_R16) (.seq (.seq (.reg none i85_R17) (.block 2 (.loop i85_L1))) (.seq (.reg none i85_R26) .ret))) (qf_85 r)))):=by
  unfold zgl at h
  refine LWp.stepC i85_L0.eq_1 ?_
  refine Wp.seq (Wp.seq ?_)
  replace h:=ifS h; rcases h with ⟨g11,h⟩ | ⟨g11,h⟩
  ·replace h:=ifS h; rcases h with ⟨g12,h⟩ | ⟨g12,h⟩
   ·refine regP (seqN ?_)
    exact jumpK [.kill [15,16]] (zlz (r0_1:=r0_1) zgi h)
   ·refine regP (seqN ?_)
    exact jumpK [.kill [15,16]] (zlz (r0_1:=r0_1) zgi h)
  ·refine regP (seqN ?_)
   exact jumpK [.kill [15,16]] (zlz (r0_1:=r0_1) zgi h)
theorem zsc{l:TLog}{r0_1:(Int × Bool)}{r:(TLog × Int × Bool)}:∀ (n:Nat),zly l r0_1 (zak l r0_1 n) r:=by
  intro n
  induction n with
  | zero=>intro hint t ok h; unfold zak at h; cases h
  | succ n ih=>intro hint t ok h; unfold zak at h; exact zrg ih h
theorem zon{l:TLog}{at0_1 term_1:Int}{entries_1:(List TEntry)}{r:(TLog × Int × Bool)} (h:zij l at0_1 term_1 entries_1=some r):Wp Pg 141 0 (.seq (.reg none i85_R6) (.seq (.seq (.reg none i85_R7) (.cond (.t 51) (.seq (.reg (some [(1,2)]) i85_R8) .ret) .skip)) (.seq (.seq (.reg none i85_R9) (.cond (.t 58) (.seq (.reg none i85_R10) (.seq (.seq (.reg none i85_R11) (.block 0 (.loop i85_L0))) (.seq (.reg (some [(1,4),(4,6)]) i85_R15) .ret))) .skip)) (.seq (.reg none i85_R16) (.seq (.seq (.reg none i85_R17) (.block 2 (.loop i85_L1))) (.seq (.reg none i85_R26) .ret)))))) ⟨[(0,.bad),(1,.int .i64 at0_1),(2,.int .i64 term_1),(3,sl TEntry.c entries_1),(4,.ptr 0 0),(8,.ptr 1 0),(9,.bad),(10,.bad),(11,.bad),(12,.bad),(13,.bad),(14,.bad),(15,.bad),(16,.bad),(17,.bad),(18,.bad),(19,.bad),(20,.bad),(24,.bad),(32,.bad),(51,.bad),(58,.bad),(78,.bad),(95,.bad),(96,.bad),(97,.bad),(98,.bad),(112,.bad),(121,.bad)],[],[(0,.box [.int .i64 l.Base,.int .i64 l.BaseTerm,sl TEntry.c l.Entries]),(1,.box [.int .i64 (0:Int),.int .i64 (0:Int),.nil])],2⟩ (qf_85 r):=by
  unfold zij at h
  refine Wp.seq (Wp.reg ?_)
  replace h:=bndS h; obtain ⟨r0_1,g5,h⟩:=h
  refine chunkT 3 (tab_cons (zcp g5) (tab_nil _)) ?_
  refine lastT (tab_nil _) (seqN (Wp.seq (Wp.seq ?_)))
  refine regP (seqN ?_)
  replace h:=ifS h; rcases h with ⟨g6,h⟩ | ⟨g6,h⟩
  ·refine condFP (Wp.skip (seqN (Wp.seq (Wp.seq ?_))))
   refine regP (seqN ?_)
   replace h:=ifS h; rcases h with ⟨g9,h⟩ | ⟨g9,h⟩
   ·refine condTP (Wp.seq ?_)
    refine regP (seqN (Wp.seq (Wp.seq (Wp.reg ?_))))
    replace h:=bndS h; obtain ⟨r0_4,g10,h⟩:=h
    refine chunkT 3 (tab_cons (zcp g10) (tab_nil _)) ?_
    refine lastT (tab_nil _) (seqN (Wp.block (Wp.loop ?_)))
    exact jumpL [.kill [1,2,3,13,51,58]] (zsc _ h)
   ·refine condFP (Wp.skip (seqN (Wp.seq (Wp.reg ?_))))
    replace h:=bndS h; obtain ⟨r0_7,g16,h⟩:=h
    refine chunkF 2 (tab_cons (zgr g16) (tab_nil _)) ?_
    refine lastT (tab_nil _) (seqN (Wp.seq (Wp.seq ?_)))
    refine regP (seqN (Wp.block (Wp.loop ?_)))
    exact jumpL [.kill [2,12,13,51,58],.tidy] (zsa _ h)
  ·refine condTP (Wp.seq ?_)
   replace h:=bndS h; obtain ⟨r0_2,g7,h⟩:=h
   replace h:=bndS h; obtain ⟨r0_3,g8,h⟩:=h
   replace h:=retS h; subst h
   refine drawP [34] mixed (clsC 1 (tab_cons (zgr g7) (tab_nil _)) (clsC 3 (tab_cons (zbh g8) (tab_nil _)) (clsN _))) (seqN ?_)
   refine weakP [.cell 8 2 .frz] (Wp.ret (seqR ?_))
   exact finP
theorem zso{l:TLog}{at0:Int}{term:Int}{entries:(List TEntry)}{r:(TLog × Int × Bool)} (h:zlt l at0 term entries=some r):Spec Pg 85 [.agg [.int .i64 l.Base,.int .i64 l.BaseTerm,sl TEntry.c l.Entries],.int .i64 at0,.int .i64 term,sl TEntry.c entries] [] 0 (.tup [.agg [.int .i64 r.1.Base,.int .i64 r.1.BaseTerm,sl TEntry.c r.1.Entries],.int .i64 r.2.1,.bool r.2.2]) [] 0:=by
  refine Spec.intro Go.Proofs.Try.func85 i85_ok (le_of_ble rfl) ?_
  show Wp Pg 141 0 i85_B ⟨argEnv _ i85_V,[],_,_⟩ (qf_85 r)
  unfold zlt at h
  unfold i85_B
  refine weakP [] ?_
  refine Wp.seq (regP (seqN (Wp.seq (Wp.seq ?_))))
  refine regP (seqN ?_)
  replace h:=ifS h; rcases h with ⟨g1,h⟩ | ⟨g1,h⟩
  ·refine condTP (Wp.seq ?_)
   refine regP (seqN (Wp.seq (Wp.seq ?_)))
   refine regP (seqN ?_)
   replace h:=ifS h; rcases h with ⟨g2,h⟩ | ⟨g2,h⟩
   ·refine condTP (Wp.seq ?_)
    replace h:=bndS h; obtain ⟨r0,g3,h⟩:=h
    replace h:=retS h; subst h
    refine drawP [34] mixed (clsC 1 (tab_cons (zgr g3) (tab_nil _)) (clsN _)) (seqN ?_)
    refine weakP [.cell 8 2 .frz] (Wp.ret (seqR (seqR ?_)))
    exact finP
   ·refine condFP (Wp.skip (seqN ?_))
    replace h:=bndS h; obtain ⟨l_1,g4,h⟩:=h
    refine drawP [] mixed (clsN _) (seqN ?_)
    exact jumpK [.kill [0,9,10,11,12,13,14,15,16,17,18,19,20,24,32,51,58,78,95,96,97,98,112,121],.tidy] (zon h)
  ·refine condFP (Wp.skip (seqN ?_))
   exact jumpK [.kill [0,9,10,11,12,13,14,15,16,17,18,19,20,24,32,51,58,78,95,96,97,98,112,121],.tidy] (zon h)
noncomputable abbrev qf_72_v0(r:Tmember):Ex→St→Prop:=FinQ 7 [] (.tup []) (zkr r.Raft.Id r.Raft.N r.Raft.Term r.Raft.Vote r.Raft.Role r.Raft.Lead r.Raft.Log.Base r.Raft.Log.BaseTerm r.Raft.Log.Entries r.Raft.Commit r.Raft.Snap r.Raft.Granted r.Raft.Next r.Raft.Match r.Raft.Clock r.Raft.Wait r.f_out) 11
theorem zjr{x0:TMsg}{r0:(Bool × Tmember)}{r0_1:(TLog × Int × Bool)}{ok:Bool}{m_60 m_70:Int}{m_80:(List TEntry)}{m_90:Int}{r:Tmember} (h:zcb x0 r0 r0_1 ok m_60 m_70 m_80 m_90=some r):Wp Pg 59 7 (.reg (some []) i72_R6) ⟨[(0,.ptr 0 0),(1,.bad),(3,.ptr 11 0),(4,.bad),(5,.int .i64 r0_1.2.1),(6,.bool ok),(10,.bad),(27,.bad)],[],(zta r0.2.Raft.Id r0.2.Raft.N r0.2.Raft.Term r0.2.Raft.Vote r0.2.Raft.Role r0.2.Raft.Lead m_60 m_70 m_80 m_90 r0.2.Raft.Snap r0.2.Raft.Granted r0.2.Raft.Next r0.2.Raft.Match r0.2.Raft.Clock r0.2.Raft.Wait r0.2.f_out x0.Kind x0.Group x0.From x0.To x0.Term x0.At x0.AtTerm x0.Commit x0.Ok x0.Entries x0.Data r0.2.Raft.Log.Entries),12⟩ (qf_72_v0 r):=by
  unfold zcb at h
  replace h:=bndS h; obtain ⟨r0_2,g5,h⟩:=h
  replace h:=retS h; subst h
  refine drawP [76] mixed (clsC 11 (tab_cons (zkx g5) (tab_nil _)) (clsN _)) ?_
  exact finW [.kill [0,3,5,6],.drop [1],.tidy]
theorem zoh{x0:TMsg}{m:Tmember}{r:Tmember} (h:zdf x0 m=some r):Spec Pg 72 [.ptr 0 0,.agg [.int .i64 x0.Kind,.int .i64 x0.Group,.int .i64 x0.From,.int .i64 x0.To,.int .i64 x0.Term,.int .i64 x0.At,.int .i64 x0.AtTerm,.int .i64 x0.Commit,.bool x0.Ok,sl TEntry.c x0.Entries,sl (ci .u8) x0.Data]] (hp30 m.Raft.Id m.Raft.N m.Raft.Term m.Raft.Vote m.Raft.Role m.Raft.Lead m.Raft.Log.Base m.Raft.Log.BaseTerm m.Raft.Log.Entries m.Raft.Commit m.Raft.Snap m.Raft.Granted m.Raft.Next m.Raft.Match m.Raft.Clock m.Raft.Wait m.f_out) 7 (.tup []) (zkr r.Raft.Id r.Raft.N r.Raft.Term r.Raft.Vote r.Raft.Role r.Raft.Lead r.Raft.Log.Base r.Raft.Log.BaseTerm r.Raft.Log.Entries r.Raft.Commit r.Raft.Snap r.Raft.Granted r.Raft.Next r.Raft.Match r.Raft.Clock r.Raft.Wait r.f_out) 11:=by
  refine Spec.intro Go.Proofs.Try.func72 i72_ok (le_of_ble rfl) ?_
  show Wp Pg 59 7 i72_B ⟨argEnv _ i72_V,[],_,_⟩ (qf_72_v0 r)
  unfold zdf at h
  unfold i72_B
  refine weakP [.movc 0 11,.movc 0 12,.movc 0 13,.movc 0 16] ?_
  refine Wp.seq (regP (seqN (Wp.seq (Wp.seq (Wp.reg ?_)))))
  replace h:=bndS h; obtain ⟨r0,g1,h⟩:=h
  refine chunkF 3 (tab_cons (zlx g1) (tab_nil _)) ?_
  refine lastT (tab_nil _) (seqN ?_)
  replace h:=ifS h; rcases h with ⟨g2,h⟩ | ⟨g2,h⟩
  ·refine condFP (Wp.skip (seqN (Wp.seq ?_)))
   replace h:=bndS h; obtain ⟨r0_1,g3,h⟩:=h
   refine drawP [] mixed (clsC 11 (tab_cons (zso g3) (tab_nil _)) (clsN _)) (seqN (Wp.seq (Wp.seq ?_)))
   refine regP (seqN ?_)
   replace h:=ifS h; rcases h with ⟨g4,h⟩ | ⟨g4,h⟩
   ·refine condTP (Wp.seq ?_)
    refine regP (seqN ?_)
    refine drawP [] mixed (clsN _) (seqN ?_)
    exact jumpK [.kill [1,4,10,27],.tidy] (zjr h)
   ·refine condFP (Wp.skip (seqN ?_))
    exact jumpK [.kill [1,4,10,27],.cell 0 8 .frz,.tidy] (zjr h)
  ·replace h:=retS h; subst h
   refine condTP (Wp.ret (seqR ?_))
   exact finW [.cell 0 8 .frz,.kill [0,1,3,4,5,6,10,27],.drop [1],.tidy]
noncomputable abbrev qf_80_v2(r:Tmember):Ex→St→Prop:=FinQ 7 [] (.tup []) (hp30 r.Raft.Id r.Raft.N r.Raft.Term r.Raft.Vote r.Raft.Role r.Raft.Lead r.Raft.Log.Base r.Raft.Log.BaseTerm r.Raft.Log.Entries r.Raft.Commit r.Raft.Snap r.Raft.Granted r.Raft.Next r.Raft.Match r.Raft.Clock r.Raft.Wait r.f_out) 7
theorem zgc{m:Tmember}{r0:Int}{v39:Bool}{r:Tmember} (h:zco m r0 v39=some r):Wp Pg 45 7 (.cond (.t 39) (.reg none i80_R3) .skip) ⟨[(0,.ptr 0 0),(2,.int .i64 r0),(3,.bad),(4,.bad),(39,.bool v39)],[],(hp30 m.Raft.Id m.Raft.N m.Raft.Term m.Raft.Vote m.Raft.Role m.Raft.Lead m.Raft.Log.Base m.Raft.Log.BaseTerm m.Raft.Log.Entries m.Raft.Commit m.Raft.Snap m.Raft.Granted m.Raft.Next m.Raft.Match m.Raft.Clock m.Raft.Wait m.f_out),7⟩ (qf_80_v2 r):=by
  unfold zco at h
  replace h:=ifS h; rcases h with ⟨g5,h⟩ | ⟨g5,h⟩
  ·replace h:=retS h; subst h
   refine condTP ?_
   refine regP ?_
   exact finW [.kill [0,2,39],.tidy]
  ·replace h:=retS h; subst h
   refine condFP (Wp.skip ?_)
   exact finW [.kill [0,2,39],.tidy]
theorem zno{m:Tmember}{r:Tmember} (h:zea m=some r):Spec Pg 80 [.ptr 0 0] (hp30 m.Raft.Id m.Raft.N m.Raft.Term m.Raft.Vote m.Raft.Role m.Raft.Lead m.Raft.Log.Base m.Raft.Log.BaseTerm m.Raft.Log.Entries m.Raft.Commit m.Raft.Snap m.Raft.Granted m.Raft.Next m.Raft.Match m.Raft.Clock m.Raft.Wait m.f_out) 7 (.tup []) (hp30 r.Raft.Id r.Raft.N r.Raft.Term r.Raft.Vote r.Raft.Role r.Raft.Lead r.Raft.Log.Base r.Raft.Log.BaseTerm r.Raft.Log.Entries r.Raft.Commit r.Raft.Snap r.Raft.Granted r.Raft.Next r.Raft.Match r.Raft.Clock r.Raft.Wait r.f_out) 7:=by
  refine Spec.intro Go.Proofs.Try.func80 i80_ok (le_of_ble rfl) ?_
  show Wp Pg 45 7 i80_B ⟨argEnv _ i80_V,[],_,_⟩ (qf_80_v2 r)
  unfold zea at h
  unfold i80_B
  refine weakP [] ?_
  refine Wp.seq (Wp.reg ?_)
  replace h:=bndS h; obtain ⟨r0,g1,h⟩:=h
  refine chunkT 6 (tab_cons (zkk g1) (tab_nil _)) ?_
  refine lastT (tab_nil _) (seqN (Wp.seq (Wp.reg ?_)))
  replace h:=bndS h; obtain ⟨r0_1,g2,h⟩:=h
  refine chunkT 7 (tab_cons (zcp g2) (tab_nil _)) ?_
  refine lastT (tab_nil _) (seqN (Wp.seq ?_))
  replace h:=ifS h; rcases h with ⟨g3,h⟩ | ⟨g3,h⟩
  ·replace h:=ifS h; rcases h with ⟨g4,h⟩ | ⟨g4,h⟩
   ·refine regP (seqN ?_)
    exact jumpK [.kill [3,4]] (zgc h)
   ·refine regP (seqN ?_)
    exact jumpK [.kill [3,4]] (zgc h)
  ·refine regP (seqN ?_)
   exact jumpK [.kill [3,4]] (zgc h)
noncomputable abbrev qf_73_v0(r:Tmember):Ex→St→Prop:=FinQ 7 [] (.tup []) (hp59 r.Raft.Id r.Raft.N r.Raft.Term r.Raft.Vote r.Raft.Role r.Raft.Lead r.Raft.Log.Base r.Raft.Log.BaseTerm r.Raft.Log.Entries r.Raft.Commit r.Raft.Snap r.Raft.Granted r.Raft.Next r.Raft.Match r.Raft.Clock r.Raft.Wait r.f_out) 8
theorem zkz{x0:TMsg}{m_00 m_10 m_20 m_30 m_40 m_50 m_60 m_70 m_90 ze zg:Int}{zf:(List Int)}{zh:(List Bool)}{zc zi:(List Int)}{m_80:(List TEntry)}{zj:(List TMsg)}{r:Tmember} (h:zdg x0 m_00 m_10 m_20 m_30 m_40 m_50 m_60 m_70 m_90 ze zg zf zh zc zi m_80 zj=some r):Wp Pg 127 7 (.reg none i73_R9) ⟨[(0,.ptr 0 0),(1,.bad),(3,.ptr 9 0),(4,.bad),(20,.bad),(25,.bad),(92,.bad)],[],(zss m_00 m_10 m_20 m_30 m_40 m_50 m_60 m_70 m_80 m_90 zf zh zc zi ze zg zj x0.Kind x0.Group x0.From x0.To x0.Term x0.At x0.AtTerm x0.Commit x0.Ok x0.Entries x0.Data),10⟩ (qf_73_v0 r):=by
  unfold zdg at h
  refine Wp.reg ?_
  replace h:=bndS h; obtain ⟨r0_3,g14,h⟩:=h
  replace h:=retS h; subst h
  refine lastF (tab_cons (zpo g14) (tab_nil _)) ?_
  exact finW [.kill [0,3],.tidy]
theorem zla{x0:TMsg}{m:Tmember}{v20:Bool}{r:Tmember} (h:zbj x0 m v20=some r):Wp Pg 127 7 (.cond (.t 20) .ret .skip) ⟨[(0,.ptr 0 0),(1,.bad),(3,.ptr 9 0),(4,.bad),(20,.bool v20),(25,.bad),(92,.bad)],[],(zss m.Raft.Id m.Raft.N m.Raft.Term m.Raft.Vote m.Raft.Role m.Raft.Lead m.Raft.Log.Base m.Raft.Log.BaseTerm m.Raft.Log.Entries m.Raft.Commit m.Raft.Snap m.Raft.Granted m.Raft.Next m.Raft.Match m.Raft.Clock m.Raft.Wait m.f_out x0.Kind x0.Group x0.From x0.To x0.Term x0.At x0.AtTerm x0.Commit x0.Ok x0.Entries x0.Data),10⟩ (seqQ Pg 127 7 (.seq (.reg none i73_R2) (.seq (.seq (.reg none i73_R3) (.cond (.t 25) (.seq (.reg (some [(4,21),(10,21),(13,21),(15,21)]) i73_R4) (.seq (.reg (some []) i73_R5) (.seq (.reg none i73_R6) (.seq (.reg (some [(4,13),(7,13)]) i73_R7) (.cond (.t 92) .ret .skip))))) (.reg (some []) i73_R8))) (.reg none i73_R9))) (qf_73_v0 r)):=by
  unfold zbj at h
  replace h:=ifS h; rcases h with ⟨g2,h⟩ | ⟨g2,h⟩
  ·replace h:=retS h; subst h
   refine condTP (Wp.ret (seqR ?_))
   exact finW [.cell 0 8 .frz,.kill [0,3,20],.tidy]
  ·refine condFP (Wp.skip (seqN (Wp.seq ?_)))
   refine regP (seqN (Wp.seq (Wp.seq ?_)))
   refine regP (seqN ?_)
   replace h:=ifS h; rcases h with ⟨g3,h⟩ | ⟨g3,h⟩
   ·refine condTP (Wp.seq ?_)
    replace h:=bndS h; obtain ⟨e,g4,h⟩:=h
    replace h:=bndS h; obtain ⟨r0,g5,h⟩:=h
    have:=ias_ownL (n:=1) (id:=5) (ex:=false) (k:=.i64) g4 rfl
    have:=ld_get (c:=(ci .i64)) g4
    have:=set_get (ci .i64) m.Raft.Match (IntKind.i64.wrap (x0.From - (1:Int))) (if e < (if r0 < x0.At then r0 else x0.At) then (if r0 < x0.At then r0 else x0.At) else e)
    try simp only [EV,EVt, *] at this
    refine drawP [] mixed (clsC 21 (tab_cons (zbh g5) (tab_nil _)) (clsN _)) (seqN (Wp.seq ?_))
    replace h:=bndS h; obtain ⟨e_1,g6,h⟩:=h
    replace h:=bndS h; obtain ⟨e_2,g7,h⟩:=h
    have:=ias_ownL (n:=1) (id:=4) (ex:=false) (k:=.i64) g6 rfl
    have:=ld_get (c:=(ci .i64)) g6
    have:=ias_ownL (n:=1) (id:=5) (ex:=false) (k:=.i64) g7 rfl
    try simp only [EV,EVt, *] at this
    have:=ld_get (c:=(ci .i64)) g7
    try simp only [EV,EVt, *] at this
    have:=set_get (ci .i64) m.Raft.Next (IntKind.i64.wrap (x0.From - (1:Int))) (if e_1 < (IntKind.i64.wrap (e_2 + (1:Int))) then (IntKind.i64.wrap (e_2 + (1:Int))) else e_1)
    try simp only [EV,EVt, *] at this
    refine drawP [] mixed (clsN _) (seqN (Wp.seq (Wp.reg ?_)))
    replace h:=bndS h; obtain ⟨r0_1,g8,h⟩:=h
    refine lastF (tab_cons (zno g8) (tab_nil _)) (seqN (Wp.seq ?_))
    replace h:=bndS h; obtain ⟨e_3,g9,h⟩:=h
    replace h:=bndS h; obtain ⟨r0_2,g10,h⟩:=h
    have:=ias_ownL (n:=1) (id:=4) (ex:=false) (k:=.i64) g9 rfl
    have:=ld_get (c:=(ci .i64)) g9
    refine drawP [] mixed (clsC 13 (tab_cons (zbh g10) (tab_nil _)) (clsN _)) (seqN ?_)
    replace h:=ifS h; rcases h with ⟨g11,h⟩ | ⟨g11,h⟩
    ·replace h:=retS h; subst h
     refine condTP (Wp.ret (seqR ?_))
     exact finW [.cell 0 8 .frz,.kill [0,3,4,20,25,92],.tidy]
    ·refine condFP (Wp.skip (seqN ?_))
     exact jumpK [.kill [4,20,25,92],.tidy] (zkz h)
   ·refine condFP ?_
    replace h:=bndS h; obtain ⟨e_4,g12,h⟩:=h
    replace h:=bndS h; obtain ⟨e_5,g13,h⟩:=h
    have:=ias_ownL (n:=1) (id:=5) (ex:=false) (k:=.i64) g12 rfl
    have:=ld_get (c:=(ci .i64)) g12
    have:=ias_ownL (n:=1) (id:=4) (ex:=false) (k:=.i64) g13 rfl
    have:=ld_get (c:=(ci .i64)) g13
    have:=set_get (ci .i64) m.Raft.Next (IntKind.i64.wrap (x0.From - (1:Int))) (if (IntKind.i64.wrap (e_4 + (1:Int))) < (IntKind.i64.wrap ((if x0.At < (IntKind.i64.wrap (e_5 - (2:Int))) then x0.At else (IntKind.i64.wrap (e_5 - (2:Int)))) + (1:Int))) then (IntKind.i64.wrap ((if x0.At < (IntKind.i64.wrap (e_5 - (2:Int))) then x0.At else (IntKind.i64.wrap (e_5 - (2:Int)))) + (1:Int))) else (IntKind.i64.wrap (e_4 + (1:Int))))
    try simp only [EV,EVt, *] at this
    refine drawP [] mixed (clsN _) (seqN ?_)
    exact jumpK [.kill [4,20,25],.tidy] (zkz h)
theorem zpq{x0:TMsg}{m:Tmember}{r:Tmember} (h:zez x0 m=some r):Spec Pg 73 [.ptr 0 0,.agg [.int .i64 x0.Kind,.int .i64 x0.Group,.int .i64 x0.From,.int .i64 x0.To,.int .i64 x0.Term,.int .i64 x0.At,.int .i64 x0.AtTerm,.int .i64 x0.Commit,.bool x0.Ok,sl TEntry.c x0.Entries,sl (ci .u8) x0.Data]] (hp30 m.Raft.Id m.Raft.N m.Raft.Term m.Raft.Vote m.Raft.Role m.Raft.Lead m.Raft.Log.Base m.Raft.Log.BaseTerm m.Raft.Log.Entries m.Raft.Commit m.Raft.Snap m.Raft.Granted m.Raft.Next m.Raft.Match m.Raft.Clock m.Raft.Wait m.f_out) 7 (.tup []) (hp59 r.Raft.Id r.Raft.N r.Raft.Term r.Raft.Vote r.Raft.Role r.Raft.Lead r.Raft.Log.Base r.Raft.Log.BaseTerm r.Raft.Log.Entries r.Raft.Commit r.Raft.Snap r.Raft.Granted r.Raft.Next r.Raft.Match r.Raft.Clock r.Raft.Wait r.f_out) 8:=by
  refine Spec.intro Go.Proofs.Try.func73 i73_ok (le_of_ble rfl) ?_
  show Wp Pg 127 7 i73_B ⟨argEnv _ i73_V,[],_,_⟩ (qf_73_v0 r)
  unfold zez at h
  unfold i73_B
  refine weakP [.movc 0 16,.movc 0 8] ?_
  refine Wp.seq (regP (seqN (Wp.seq (Wp.seq ?_))))
  replace h:=ifS h; rcases h with ⟨g1,h⟩ | ⟨g1,h⟩
  ·refine drawP [] mixed (clsN _) (seqN ?_)
   exact jumpK [.kill [1,4,25,92],.tidy] (zla h)
  ·refine drawP [] mixed (clsN _) (seqN ?_)
   exact jumpK [.kill [1,4,25,92],.tidy] (zla h)
noncomputable abbrev qf_56(r:(TLog × Int)):Ex→St→Prop:=FinQ 0 [.cell 4 true 3,.tmp 5] (.tup [.agg [.int .i64 r.1.Base,.int .i64 r.1.BaseTerm,sl TEntry.c r.1.Entries],.int .i64 r.2]) [] 0
theorem zns{l:TLog}{at0:Int}{r:(TLog × Int)} (h:zhm l at0=some r):Spec Pg 56 [.agg [.int .i64 l.Base,.int .i64 l.BaseTerm,sl TEntry.c l.Entries],.int .i64 at0] [] 0 (.tup [.agg [.int .i64 r.1.Base,.int .i64 r.1.BaseTerm,sl TEntry.c r.1.Entries],.int .i64 r.2]) [] 0:=by
  refine Spec.intro Go.Proofs.Try.func56 i56_ok (le_of_ble rfl) ?_
  show Wp Pg 28 0 i56_B ⟨argEnv _ i56_V,[],_,_⟩ (qf_56 r)
  unfold zhm at h
  unfold i56_B
  refine weakP [] ?_
  refine Wp.seq (regP (seqN (Wp.seq (Wp.reg ?_))))
  replace h:=bndS h; obtain ⟨r0,g1,h⟩:=h
  refine chunkT 3 (tab_cons (zcp g1) (tab_nil _)) ?_
  refine lastT (tab_nil _) (seqN (Wp.seq (Wp.seq ?_)))
  refine regP (seqN ?_)
  replace h:=ifS h; rcases h with ⟨g2,h⟩ | ⟨g2,h⟩
  ·refine condFP (Wp.skip (seqN (Wp.seq (Wp.reg ?_))))
   replace h:=bndS h; obtain ⟨l_1,g3,h⟩:=h
   replace h:=bndS h; obtain ⟨r0_1,g4,h⟩:=h
   replace h:=retS h; subst h
   refine chunkF 10 (tab_cons (zjx g4) (tab_nil _)) ?_
   refine lastT (tab_nil _) (seqN ?_)
   refine weakP [.cell 4 2 .frz] (Wp.ret ?_)
   exact finP
  ·replace h:=retS h; subst h
   refine condTP (Wp.seq ?_)
   refine regP (seqN ?_)
   refine weakP [.cell 4 2 .frz] (Wp.ret (seqR ?_))
   exact finP
noncomputable abbrev qf_86(r:TLog):Ex→St→Prop:=FinQ 0 [.cell 6 true 3] (.agg [.int .i64 r.Base,.int .i64 r.BaseTerm,sl TEntry.c r.Entries]) [] 0
theorem znd{l:TLog}{at0 term:Int}{v22:Bool}{r:TLog} (h:zin l at0 term v22=some r):Wp Pg 33 0 (.cond (.t 22) (.seq (.reg none i86_R3) (.seq (.reg none i86_R4) .ret)) .skip) ⟨[(0,.bad),(1,.int .i64 at0),(2,.int .i64 term),(3,.ptr 0 0),(6,.ptr 1 0),(7,.bad),(8,.bad),(9,.bad),(22,.bool v22)],[],[(0,.box [.int .i64 l.Base,.int .i64 l.BaseTerm,sl TEntry.c l.Entries]),(1,.box [.int .i64 (0:Int),.int .i64 (0:Int),.nil])],2⟩ (seqQ Pg 33 0 (.seq (.reg none i86_R5) .ret) (qf_86 r)):=by
  unfold zin at h
  replace h:=ifS h; rcases h with ⟨g3,h⟩ | ⟨g3,h⟩
  ·refine condTP (Wp.seq (Wp.reg ?_))
   replace h:=bndS h; obtain ⟨r0_1,g4,h⟩:=h
   replace h:=retS h; subst h
   refine chunkT 3 (tab_cons (zns g4) (tab_nil _)) ?_
   refine lastT (tab_nil _) (seqN (Wp.seq ?_))
   refine regP (seqN (Wp.ret (seqR ?_)))
   exact finP
  ·replace h:=retS h; subst h
   refine condFP (Wp.skip (seqN (Wp.seq ?_)))
   refine regP (seqN ?_)
   refine weakP [.cell 6 2 .frz] (Wp.ret ?_)
   exact finP
theorem zsg{l:TLog}{at0:Int}{term:Int}{r:TLog} (h:zkg l at0 term=some r):Spec Pg 86 [.agg [.int .i64 l.Base,.int .i64 l.BaseTerm,sl TEntry.c l.Entries],.int .i64 at0,.int .i64 term] [] 0 (.agg [.int .i64 r.Base,.int .i64 r.BaseTerm,sl TEntry.c r.Entries]) [] 0:=by
  refine Spec.intro Go.Proofs.Try.func86 i86_ok (le_of_ble rfl) ?_
  show Wp Pg 33 0 i86_B ⟨argEnv _ i86_V,[],_,_⟩ (qf_86 r)
  unfold zkg at h
  unfold i86_B
  refine weakP [] ?_
  refine Wp.seq (regP (seqN (Wp.seq (Wp.seq (Wp.reg ?_)))))
  replace h:=bndS h; obtain ⟨r0,g1,h⟩:=h
  refine chunkT 3 (tab_cons (zcp g1) (tab_nil _)) ?_
  refine lastT (tab_nil _) (seqN (Wp.seq ?_))
  replace h:=ifS h; rcases h with ⟨g2,h⟩ | ⟨g2,h⟩
  ·refine regP (seqN ?_)
   exact jumpK [.kill [0,7,8,9],.tidy] (znd h)
  ·refine regP (seqN ?_)
   exact jumpK [.kill [0,7,8,9],.tidy] (znd h)
noncomputable abbrev qf_74_v0(r:Tmember):Ex→St→Prop:=FinQ 7 [] (.tup []) (zsx r.Raft.Id r.Raft.N r.Raft.Term r.Raft.Vote r.Raft.Role r.Raft.Lead r.Raft.Log.Base r.Raft.Log.BaseTerm r.Raft.Log.Entries r.Raft.Commit r.Raft.Snap r.Raft.Granted r.Raft.Next r.Raft.Match r.Raft.Clock r.Raft.Wait r.f_out) 12
theorem zlb{x0:TMsg}{r0:(Bool × Tmember)}{m_60 m_70:Int}{m_80:(List TEntry)}{m_90:Int}{zf:(List Int)}{r:Tmember} (h:zdh x0 r0 m_60 m_70 m_80 m_90 zf=some r):Wp Pg 58 7 (.reg (some []) i74_R4) ⟨[(0,.ptr 0 0),(1,.bad),(3,.ptr 12 0),(7,.bad),(15,.bad)],[],(ztb r0.2.Raft.Id r0.2.Raft.N r0.2.Raft.Term r0.2.Raft.Vote r0.2.Raft.Role r0.2.Raft.Lead m_60 m_70 m_80 m_90 zf r0.2.Raft.Granted r0.2.Raft.Next r0.2.Raft.Match r0.2.Raft.Clock r0.2.Raft.Wait r0.2.f_out x0.Kind x0.Group x0.From x0.To x0.Term x0.At x0.AtTerm x0.Commit x0.Ok x0.Entries x0.Data r0.2.Raft.Log.Entries),13⟩ (qf_74_v0 r):=by
  unfold zdh at h
  replace h:=bndS h; obtain ⟨r0_2,g6,h⟩:=h
  replace h:=retS h; subst h
  refine drawP [76] mixed (clsC 14 (tab_cons (zkx g6) (tab_nil _)) (clsN _)) ?_
  exact finW [.kill [0,3],.drop [1],.tidy]
theorem zpr{x0:TMsg}{m:Tmember}{r:Tmember} (h:zfa x0 m=some r):Spec Pg 74 [.ptr 0 0,.agg [.int .i64 x0.Kind,.int .i64 x0.Group,.int .i64 x0.From,.int .i64 x0.To,.int .i64 x0.Term,.int .i64 x0.At,.int .i64 x0.AtTerm,.int .i64 x0.Commit,.bool x0.Ok,sl TEntry.c x0.Entries,sl (ci .u8) x0.Data]] (hp30 m.Raft.Id m.Raft.N m.Raft.Term m.Raft.Vote m.Raft.Role m.Raft.Lead m.Raft.Log.Base m.Raft.Log.BaseTerm m.Raft.Log.Entries m.Raft.Commit m.Raft.Snap m.Raft.Granted m.Raft.Next m.Raft.Match m.Raft.Clock m.Raft.Wait m.f_out) 7 (.tup []) (zsx r.Raft.Id r.Raft.N r.Raft.Term r.Raft.Vote r.Raft.Role r.Raft.Lead r.Raft.Log.Base r.Raft.Log.BaseTerm r.Raft.Log.Entries r.Raft.Commit r.Raft.Snap r.Raft.Granted r.Raft.Next r.Raft.Match r.Raft.Clock r.Raft.Wait r.f_out) 12:=by
  refine Spec.intro Go.Proofs.Try.func74 i74_ok (le_of_ble rfl) ?_
  show Wp Pg 58 7 i74_B ⟨argEnv _ i74_V,[],_,_⟩ (qf_74_v0 r)
  unfold zfa at h
  unfold i74_B
  refine weakP [.movc 0 10,.movc 0 11,.movc 0 12,.movc 0 13,.movc 0 16] ?_
  refine Wp.seq (regP (seqN (Wp.seq (Wp.seq (Wp.reg ?_)))))
  replace h:=bndS h; obtain ⟨r0,g1,h⟩:=h
  refine chunkF 3 (tab_cons (zlx g1) (tab_nil _)) ?_
  refine lastT (tab_nil _) (seqN ?_)
  replace h:=ifS h; rcases h with ⟨g2,h⟩ | ⟨g2,h⟩
  ·refine condFP (Wp.skip (seqN (Wp.seq (Wp.seq ?_))))
   refine drawP [] mixed (clsN _) (seqN ?_)
   replace h:=ifS h; rcases h with ⟨g3,h⟩ | ⟨g3,h⟩
   ·refine condTP ?_
    replace h:=bndS h; obtain ⟨r0_1,g4,h⟩:=h
    replace h:=reqS h; obtain ⟨g5,h⟩:=h
    refine drawP [] mixed (clsC 12 (tab_cons (zsg g4) (tab_nil _)) (clsN _)) (seqN ?_)
    exact jumpK [.kill [1,7,15],.tidy] (zlb h)
   ·refine condFP (Wp.skip (seqN ?_))
    exact jumpK [.kill [1,7,15],.cell 0 8 .frz,.tidy] (zlb h)
  ·replace h:=retS h; subst h
   refine condTP (Wp.ret (seqR ?_))
   exact finW [.cell 0 8 .frz,.kill [0,1,3,7,15],.drop [1],.tidy]
theorem zoo{r:Bool}(h:zmt=some r):Spec Pg 10 [] [] 0 (.bool r) [] 0:=by
  obtain rfl:=retS h
  exact zqk
noncomputable abbrev qf_11(r:(TRaft × Int)):Ex→St→Prop:=FinQ 0 [.cell 4 true 16,.tmp 5] (.tup [.agg [.int .i64 r.1.Id,.int .i64 r.1.N,.int .i64 r.1.Term,.int .i64 r.1.Vote,.int .i64 r.1.Role,.int .i64 r.1.Lead,.int .i64 r.1.Log.Base,.int .i64 r.1.Log.BaseTerm,sl TEntry.c r.1.Log.Entries,.int .i64 r.1.Commit,sl (ci .u8) r.1.Snap,sl cb r.1.Granted,sl (ci .i64) r.1.Next,sl (ci .i64) r.1.Match,.int .i64 r.1.Clock,.int .i64 r.1.Wait],.int .i64 r.2]) [] 0
theorem zke{id n0:Int}{v20:Bool}{r:(TRaft × Int)} (h:zgp id n0 v20=some r):Wp Pg 27 0 (.cond (.t 20) (.seq (.reg none i11_R2) .ret) .skip) ⟨[(0,.int .i64 id),(1,.int .i64 n0),(4,.ptr 0 0),(5,.bad),(20,.bool v20)],[],(hp21 (0:Int) (0:Int) (0:Int) (0:Int) (0:Int) (0:Int) (0:Int) (0:Int) (0:Int) (0:Int) (0:Int)),1⟩ (seqQ Pg 27 0 (.seq (.reg none i11_R3) .ret) (qf_11 r)):=by
  unfold zgp at h
  replace h:=ifS h; rcases h with ⟨g4,h⟩ | ⟨g4,h⟩
  ·replace h:=retS h; subst h
   refine condTP (Wp.seq ?_)
   refine regP (seqN ?_)
   refine weakP [.cell 4 8 .frz,.cell 4 10 .frz,.cell 4 11 .frz,.cell 4 12 .frz,.cell 4 13 .frz] (Wp.ret (seqR ?_))
   exact finP
  ·replace h:=retS h; subst h
   refine condFP (Wp.skip (seqN (Wp.seq ?_)))
   refine regP (seqN ?_)
   refine weakP [.cell 4 8 .frz,.cell 4 10 .frz,.cell 4 11 .frz,.cell 4 12 .frz,.cell 4 13 .frz] (Wp.ret ?_)
   exact finP
theorem zqp{id:Int}{n0:Int}{r:(TRaft × Int)} (h:zkp id n0=some r):Spec Pg 11 [.int .i64 id,.int .i64 n0] [] 0 (.tup [.agg [.int .i64 r.1.Id,.int .i64 r.1.N,.int .i64 r.1.Term,.int .i64 r.1.Vote,.int .i64 r.1.Role,.int .i64 r.1.Lead,.int .i64 r.1.Log.Base,.int .i64 r.1.Log.BaseTerm,sl TEntry.c r.1.Log.Entries,.int .i64 r.1.Commit,sl (ci .u8) r.1.Snap,sl cb r.1.Granted,sl (ci .i64) r.1.Next,sl (ci .i64) r.1.Match,.int .i64 r.1.Clock,.int .i64 r.1.Wait],.int .i64 r.2]) [] 0:=by
  refine Spec.intro Go.Proofs.Try.func11 i11_ok (le_of_ble rfl) ?_
  show Wp Pg 27 0 i11_B ⟨argEnv _ i11_V,[],_,_⟩ (qf_11 r)
  unfold zkp at h
  unfold i11_B
  refine weakP [] ?_
  refine Wp.seq (regP (seqN (Wp.seq (Wp.seq ?_))))
  replace h:=ifS h; rcases h with ⟨g1,h⟩ | ⟨g1,h⟩
  ·refine regP (seqN ?_)
   exact jumpK [.kill [5]] (zke h)
  ·replace h:=ifS h; rcases h with ⟨g2,h⟩ | ⟨g2,h⟩
   ·refine regP (seqN ?_)
    exact jumpK [.kill [5]] (zke h)
   ·replace h:=ifS h; rcases h with ⟨g3,h⟩ | ⟨g3,h⟩
    ·refine regP (seqN ?_)
     exact jumpK [.kill [5]] (zke h)
    ·refine regP (seqN ?_)
     exact jumpK [.kill [5]] (zke h)
noncomputable abbrev qf_33(r:Int):Ex→St→Prop:=FinQ 0 [.tmp 2] (.int .i64 r) [] 0
noncomputable abbrev zld(l:TLog)(rec0:Int→Int→Option Int)(r:Int):Prop:=∀ {term v39:Int},rec0 term v39=some r→LWp Pg 55 0 i33_L0 ⟨[(0,.bad),(1,.bad),(2,.bad),(3,.int .i64 term),(5,.bad),(32,.bad),(37,sl TEntry.c l.Entries),(38,.int .i64 (l.Entries.length:Int)),(39,.int .i64 v39),(40,.bad),(51,.bad)],[],[],0⟩ (blockQ 0 (seqQ Pg 55 0 (.seq (.reg none i33_R11) .ret) (qf_33 r)))
theorem zne{l:TLog}{v39:Int}{e:TEntry}{v51:Bool}{r:Int}{zay:Int→Int→Option Int}(zhk:zld l zay r)(h:zgm zay v39 e v51=some r):Wp Pg 55 0 (.cond (.t 51) (.seq (.reg none i33_R8) .ret) .skip) ⟨[(0,.bad),(1,.bad),(2,.bad),(3,.bad),(5,.ptr 0 0),(32,.bad),(37,sl TEntry.c l.Entries),(38,.int .i64 (l.Entries.length:Int)),(39,.int .i64 v39),(40,.bad),(51,.bool v51)],[],[(0,.box [.int .i64 e.Term,sl (ci .u8) e.Data])],1⟩ (seqQ Pg 55 0 (.reg none i33_R9) (blockQ 1 (seqQ Pg 55 0 (.reg none i33_R10) (loopQ Pg 55 0 i33_L0 (blockQ 0 (seqQ Pg 55 0 (.seq (.reg none i33_R11) .ret) (qf_33 r))))))):=by
  unfold zgm at h
  replace h:=ifS h; rcases h with ⟨g9,h⟩ | ⟨g9,h⟩
  ·replace h:=retS h; subst h
   refine condTP (Wp.seq ?_)
   refine regP (seqN (Wp.ret (seqR (blockR (seqR (loopR (blockR (seqR ?_))))))))
   exact finP
  ·refine condFP (Wp.skip (seqN ?_))
   refine regP (blockN (seqN ?_))
   refine regP (loopN ?_)
   exact jumpL [.kill [5,51],.tidy] (zhk h)
theorem zpz{l:TLog}{r:Int} {zay:Int→Int→Option Int}(zhk:zld l zay r){term v39:Int}(h:zgu l zay term v39=some r):LWp Pg 55 0 i33_L0 ⟨[(0,.bad),(1,.bad),(2,.bad),(3,.int .i64 term),(5,.bad),(32,.bad),(37,sl TEntry.c l.Entries),(38,.int .i64 (l.Entries.length:Int)),(39,.int .i64 v39),(40,.bad),(51,.bad)],[],[],0⟩ (blockQ 0 (seqQ Pg 55 0 (.seq (.reg none i33_R11) .ret) (qf_33 r))):=by
  unfold zgu at h
  refine LWp.stepC i33_L0.eq_1 ?_
  refine Wp.seq (regP (seqN (Wp.seq ?_)))
  replace h:=ifS h; rcases h with ⟨g6,h⟩ | ⟨g6,h⟩
  ·refine condTP (Wp.skip (seqN (Wp.seq (Wp.block (Wp.seq ?_)))))
   replace h:=bndS h; obtain ⟨e,g7,h⟩:=h
   refine regP (seqN (Wp.seq (Wp.seq ?_)))
   replace h:=ifS h; rcases h with ⟨g8,h⟩ | ⟨g8,h⟩
   ·refine regP (seqN ?_)
    exact jumpK [.kill [3,40]] (zne (l:=l) zhk h)
   ·refine regP (seqN ?_)
    exact jumpK [.kill [3,40]] (zne (l:=l) zhk h)
  ·replace h:=retS h; subst h
   refine condFP (Wp.out (seqO (loopO (blockO (seqN (Wp.seq ?_))))))
   refine regP (seqN (Wp.ret ?_))
   exact finP
theorem zrh{l:TLog}{r:Int}:∀ (n:Nat),zld l (zcx l n) r:=by
  intro n
  induction n with
  | zero=>intro term v39 h; unfold zcx at h; cases h
  | succ n ih=>intro term v39 h; unfold zcx at h; exact zpz ih h
theorem zgv{l:TLog}{v32:Bool}{r:Int} (h:zcy l v32=some r):Wp Pg 55 0 (.cond (.t 32) (.seq (.reg none i33_R2) .ret) .skip) ⟨[(0,.bad),(1,.ptr 0 0),(2,.bad),(3,.bad),(5,.bad),(32,.bool v32),(37,.bad),(38,.bad),(39,.bad),(40,.bad),(51,.bad)],[],[(0,.box [.int .i64 l.Base,.int .i64 l.BaseTerm,sl TEntry.c l.Entries])],1⟩ (seqQ Pg 55 0 (.seq (.reg none i33_R3) (.seq (.seq (.reg none i33_R4) (.block 0 (.loop i33_L0))) (.seq (.reg none i33_R11) .ret))) (qf_33 r)):=by
  unfold zcy at h
  replace h:=ifS h; rcases h with ⟨g5,h⟩ | ⟨g5,h⟩
  ·replace h:=retS h; subst h
   refine condTP (Wp.seq ?_)
   refine regP (seqN (Wp.ret (seqR ?_)))
   exact finP
  ·refine condFP (Wp.skip (seqN (Wp.seq ?_)))
   refine regP (seqN (Wp.seq (Wp.seq ?_)))
   refine regP (seqN (Wp.block (Wp.loop ?_)))
   exact jumpL [.kill [1,32],.tidy] (zrh _ h)
theorem zsh{l:TLog}{r:Int} (h:zkh l=some r):Spec Pg 33 [.agg [.int .i64 l.Base,.int .i64 l.BaseTerm,sl TEntry.c l.Entries]] [] 0 (.int .i64 r) [] 0:=by
  refine Spec.intro Go.Proofs.Try.func33 i33_ok (le_of_ble rfl) ?_
  show Wp Pg 55 0 i33_B ⟨argEnv _ i33_V,[],_,_⟩ (qf_33 r)
  unfold zkh at h
  unfold i33_B
  refine weakP [] ?_
  refine Wp.seq (regP (seqN (Wp.seq (Wp.seq ?_))))
  replace h:=ifS h; rcases h with ⟨g1,h⟩ | ⟨g1,h⟩
  ·refine regP (seqN ?_)
   exact jumpK [.kill [0,2,3,5,37,38,39,40,51]] (zgv h)
  ·replace h:=ifS h; rcases h with ⟨g2,h⟩ | ⟨g2,h⟩
   ·refine regP (seqN ?_)
    exact jumpK [.kill [0,2,3,5,37,38,39,40,51]] (zgv h)
   ·replace h:=ifS h; rcases h with ⟨g3,h⟩ | ⟨g3,h⟩
    ·refine regP (seqN ?_)
     exact jumpK [.kill [0,2,3,5,37,38,39,40,51]] (zgv h)
    ·replace h:=ifS h; rcases h with ⟨g4,h⟩ | ⟨g4,h⟩
     ·refine regP (seqN ?_)
      exact jumpK [.kill [0,2,3,5,37,38,39,40,51]] (zgv h)
     ·refine regP (seqN ?_)
      exact jumpK [.kill [0,2,3,5,37,38,39,40,51]] (zgv h)
noncomputable abbrev qf_13(r:(TRaft × Int)):Ex→St→Prop:=FinQ 0 [.cell 12 true 16,.tmp 13] (.tup [.agg [.int .i64 r.1.Id,.int .i64 r.1.N,.int .i64 r.1.Term,.int .i64 r.1.Vote,.int .i64 r.1.Role,.int .i64 r.1.Lead,.int .i64 r.1.Log.Base,.int .i64 r.1.Log.BaseTerm,sl TEntry.c r.1.Log.Entries,.int .i64 r.1.Commit,sl (ci .u8) r.1.Snap,sl cb r.1.Granted,sl (ci .i64) r.1.Next,sl (ci .i64) r.1.Match,.int .i64 r.1.Clock,.int .i64 r.1.Wait],.int .i64 r.2]) [] 0
theorem zem{term vote:Int}{l:TLog}{snap:(List Int)}{r0:(TRaft × Int)}{v27:Bool}{r:(TRaft × Int)} (h:zbc term vote l snap r0 v27=some r):Wp Pg 69 0 (.cond (.t 27) (.seq (.reg none i13_R5) .ret) .skip) ⟨[(0,.bad),(1,.bad),(2,.int .i64 term),(3,.int .i64 vote),(4,.bad),(5,sl (ci .u8) snap),(10,.ptr 0 0),(12,.ptr 1 0),(13,.bad),(14,.ptr 2 0),(15,.bad),(22,.bad),(27,.bool v27)],[],(hp26 l.Base l.BaseTerm l.Entries (0:Int) (0:Int) (0:Int) (0:Int) (0:Int) (0:Int) (0:Int) (0:Int) (0:Int) (0:Int) (0:Int) r0.1.Id r0.1.N r0.1.Term r0.1.Vote r0.1.Role r0.1.Lead r0.1.Log.Base r0.1.Log.BaseTerm r0.1.Log.Entries r0.1.Commit r0.1.Snap r0.1.Granted r0.1.Next r0.1.Match r0.1.Clock r0.1.Wait),3⟩ (blockQ 0 (seqQ Pg 69 0 (.seq (.reg (some [(3,5),(5,7),(5,9),(5,11),(5,13)]) i13_R6) (.seq (.reg none i13_R7) .ret)) (qf_13 r))):=by
  unfold zbc at h
  replace h:=ifS h; rcases h with ⟨g10,h⟩ | ⟨g10,h⟩
  ·replace h:=retS h; subst h
   refine condTP (Wp.seq ?_)
   refine regP (seqN ?_)
   refine weakP [.cell 12 8 .frz,.cell 12 10 .frz,.cell 12 11 .frz,.cell 12 12 .frz,.cell 12 13 .frz] (Wp.ret (blockR (seqR ?_)))
   exact finP
  ·refine condFP (Wp.skip (blockN (seqN (Wp.seq ?_))))
   replace h:=bndS h; obtain ⟨r0_3,g11,h⟩:=h
   replace h:=reqS h; obtain ⟨g12,h⟩:=h
   replace h:=retS h; subst h
   refine drawP [34] mixed (clsC 3 (tab_cons (zgr g11) (tab_nil _)) (clsN _)) (seqN (Wp.seq ?_))
   refine regP (seqN ?_)
   refine weakP [.cell 12 8 .frz,.cell 12 10 .frz] (Wp.ret ?_)
   exact finP
theorem zrj{id:Int}{n0:Int}{term:Int}{vote:Int}{l:TLog}{snap:(List Int)}{r:(TRaft × Int)} (h:zhn id n0 term vote l snap=some r):Spec Pg 13 [.int .i64 id,.int .i64 n0,.int .i64 term,.int .i64 vote,.agg [.int .i64 l.Base,.int .i64 l.BaseTerm,sl TEntry.c l.Entries],sl (ci .u8) snap] [] 0 (.tup [.agg [.int .i64 r.1.Id,.int .i64 r.1.N,.int .i64 r.1.Term,.int .i64 r.1.Vote,.int .i64 r.1.Role,.int .i64 r.1.Lead,.int .i64 r.1.Log.Base,.int .i64 r.1.Log.BaseTerm,sl TEntry.c r.1.Log.Entries,.int .i64 r.1.Commit,sl (ci .u8) r.1.Snap,sl cb r.1.Granted,sl (ci .i64) r.1.Next,sl (ci .i64) r.1.Match,.int .i64 r.1.Clock,.int .i64 r.1.Wait],.int .i64 r.2]) [] 0:=by
  refine Spec.intro Go.Proofs.Try.func13 i13_ok (le_of_ble rfl) ?_
  show Wp Pg 69 0 i13_B ⟨argEnv _ i13_V,[],_,_⟩ (qf_13 r)
  unfold zhn at h
  unfold i13_B
  refine weakP [] ?_
  refine Wp.seq (regP (seqN (Wp.seq (Wp.reg ?_))))
  replace h:=bndS h; obtain ⟨r0,g1,h⟩:=h
  refine chunkT 3 (tab_cons (zqp g1) (tab_nil _)) ?_
  refine lastT (tab_nil _) (seqN (Wp.seq (Wp.block (Wp.seq ?_))))
  refine regP (seqN ?_)
  replace h:=ifS h; rcases h with ⟨g2,h⟩ | ⟨g2,h⟩
  ·replace h:=retS h; subst h
   refine condTP (Wp.seq ?_)
   refine regP (seqN ?_)
   refine weakP [.cell 12 8 .frz,.cell 12 10 .frz,.cell 12 11 .frz,.cell 12 12 .frz,.cell 12 13 .frz] (Wp.ret (blockR (seqR ?_)))
   exact finP
  ·refine condFP (Wp.seq (Wp.reg ?_))
   replace h:=ifS h; rcases h with ⟨g3,h⟩ | ⟨g3,h⟩
   ·refine lastT (tab_nil _) (seqN ?_)
    exact jumpK [.kill [0,1,4,13,15,22],.tidy] (zem h)
   ·replace h:=ifS h; rcases h with ⟨g4,h⟩ | ⟨g4,h⟩
    ·refine lastT (tab_nil _) (seqN ?_)
     exact jumpK [.kill [0,1,4,13,15,22],.tidy] (zem h)
    ·replace h:=ifS h; rcases h with ⟨g5,h⟩ | ⟨g5,h⟩
     ·refine lastT (tab_nil _) (seqN ?_)
      exact jumpK [.kill [0,1,4,13,15,22],.tidy] (zem h)
     ·replace h:=ifS h; rcases h with ⟨g6,h⟩ | ⟨g6,h⟩
      ·refine lastT (tab_nil _) (seqN ?_)
       exact jumpK [.kill [0,1,4,13,15,22],.tidy] (zem h)
      ·replace h:=bndS h; obtain ⟨r0_1,g7,h⟩:=h
       refine chunkT 18 (tab_cons (ziu g7) (tab_nil _)) ?_
       replace h:=ifS h; rcases h with ⟨g8,h⟩ | ⟨g8,h⟩
       ·refine lastT (tab_nil _) (seqN ?_)
        exact jumpK [.kill [0,1,4,13,15,22],.tidy] (zem h)
       ·replace h:=bndS h; obtain ⟨r0_2,g9,h⟩:=h
        refine chunkT 6 (tab_cons (zsh g9) (tab_nil _)) ?_
        refine lastT (tab_nil _) (seqN ?_)
        exact jumpK [.kill [0,1,4,13,15,22],.tidy] (zem h)
noncomputable abbrev qf_17(r:Bool):Ex→St→Prop:=FinQ 0 [.tmp 2] (.bool r) [] 0
noncomputable abbrev zmr(l:(List TOp))(rec0:Int→Option Bool)(r:Bool):Prop:=∀ {i:Int},rec0 i=some r→LWp Pg 20 0 i17_L0 ⟨[(0,sl TOp.c l),(2,.bad),(3,.int .i64 i),(6,.bad),(10,.bad),(19,.bad)],[],[],0⟩ (blockQ 0 (seqQ Pg 20 0 (.seq (.reg none i17_R8) .ret) (qf_17 r)))
theorem zps{l:(List TOp)}{r:Bool} {zhd:Int→Option Bool}(zpi:zmr l zhd r){i:Int}(h:zgf l zhd i=some r):LWp Pg 20 0 i17_L0 ⟨[(0,sl TOp.c l),(2,.bad),(3,.int .i64 i),(6,.bad),(10,.bad),(19,.bad)],[],[],0⟩ (blockQ 0 (seqQ Pg 20 0 (.seq (.reg none i17_R8) .ret) (qf_17 r))):=by
  unfold zgf at h
  refine LWp.stepC i17_L0.eq_1 ?_
  refine Wp.seq (Wp.seq (regP (seqN ?_)))
  replace h:=ifS h; rcases h with ⟨g2,h⟩ | ⟨g2,h⟩
  ·refine condTP (Wp.skip (seqN (Wp.seq (Wp.block (Wp.seq ?_)))))
   replace h:=bndS h; obtain ⟨e,g3,h⟩:=h
   refine regP (seqN ?_)
   replace h:=ifS h; rcases h with ⟨g4,h⟩ | ⟨g4,h⟩
   ·replace h:=retS h; subst h
    refine condTP (Wp.seq ?_)
    refine regP (seqN (Wp.ret (blockR (seqR (loopR (blockR (seqR ?_)))))))
    exact finP
   ·refine condFP (Wp.skip (blockN (seqN ?_)))
    refine regP (loopN ?_)
    exact jumpL [.kill [10,19]] (zpi h)
  ·replace h:=retS h; subst h
   refine condFP (Wp.out (seqO (loopO (blockO (seqN (Wp.seq ?_))))))
   refine regP (seqN (Wp.ret ?_))
   exact finP
theorem zqq{l:(List TOp)}{r:Bool}:∀ (n:Nat),zmr l (zdk l n) r:=by
  intro n
  induction n with
  | zero=>intro i h; unfold zdk at h; cases h
  | succ n ih=>intro i h; unfold zdk at h; exact zps ih h
theorem zsd{l:(List TOp)}{r:Bool} (h:zjn l=some r):Spec Pg 17 [sl TOp.c l] [] 0 (.bool r) [] 0:=by
  refine Spec.intro Go.Proofs.Try.func17 i17_ok (le_of_ble rfl) ?_
  show Wp Pg 20 0 i17_B ⟨argEnv _ i17_V,[],_,_⟩ (qf_17 r)
  unfold zjn at h
  unfold i17_B
  refine weakP [] ?_
  refine Wp.seq (regP (seqN (Wp.seq (Wp.seq ?_))))
  refine regP (seqN ?_)
  replace h:=ifS h; rcases h with ⟨g1,h⟩ | ⟨g1,h⟩
  ·replace h:=retS h; subst h
   refine condTP (Wp.seq ?_)
   refine regP (seqN (Wp.ret (seqR ?_)))
   exact finP
  ·refine condFP (Wp.skip (seqN (Wp.seq (Wp.seq ?_))))
   refine regP (seqN (Wp.block (Wp.loop ?_)))
   exact jumpL [.kill [2,6,10,19]] (zqq _ h)
noncomputable abbrev qf_18(r:TWorld):Ex→St→Prop:=FinQ 0 [.cell 2 true 2] (.agg [sl TRaft.c r.R,sl TMsg.c r.Net]) [] 0
noncomputable abbrev zms(n0:Int)(rec0:Int→(List TRaft)→Option TWorld)(r:TWorld):Prop:=∀ {i:Int} {w_00:(List TRaft)},rec0 i w_00=some r→LWp Pg 26 0 i18_L0 ⟨[(0,.int .i64 n0),(2,.ptr 0 0),(3,.ptr 1 0),(4,.int .i64 i),(5,.bad),(10,.bad)],[],[(0,.box [.nil,.nil]),(1,.box [.own 16 2 0 w_00.length false,.nil]),(2,.arr 16 (List.map TRaft.c w_00) 0)],3⟩ (blockQ 0 (seqQ Pg 26 0 (.seq (.reg none i18_R7) .ret) (qf_18 r)))
theorem zpt{n0:Int}{r:TWorld} {zhe:Int→(List TRaft)→Option TWorld}(zpj:zms n0 zhe r){i:Int}{w_00:(List TRaft)}(h:zgg n0 zhe i w_00=some r):LWp Pg 26 0 i18_L0 ⟨[(0,.int .i64 n0),(2,.ptr 0 0),(3,.ptr 1 0),(4,.int .i64 i),(5,.bad),(10,.bad)],[],[(0,.box [.nil,.nil]),(1,.box [.own 16 2 0 w_00.length false,.nil]),(2,.arr 16 (List.map TRaft.c w_00) 0)],3⟩ (blockQ 0 (seqQ Pg 26 0 (.seq (.reg none i18_R7) .ret) (qf_18 r))):=by
  unfold zgg at h
  refine LWp.stepC i18_L0.eq_1 ?_
  refine Wp.seq (Wp.seq (regP (seqN ?_)))
  replace h:=ifS h; rcases h with ⟨g1,h⟩ | ⟨g1,h⟩
  ·refine condTP (Wp.skip (seqN (Wp.seq (Wp.block (Wp.seq (Wp.reg ?_))))))
   replace h:=bndS h; obtain ⟨r0,g2,h⟩:=h
   refine chunkT 3 (tab_cons (zqp g2) (tab_nil _)) ?_
   refine lastT (tab_nil _) (seqN ?_)
   replace h:=reqS h; obtain ⟨g3,h⟩:=h
   refine regP (blockN (seqN ?_))
   refine regP (loopN ?_)
   exact jumpL [.kill [5,10],.tidy] (zpj h)
  ·replace h:=retS h; subst h
   refine condFP (Wp.out (seqO (loopO (blockO (seqN (Wp.seq ?_))))))
   refine regP (seqN ?_)
   refine weakP [.cell 2 0 .frz,.cell 2 1 .frz] (Wp.ret ?_)
   exact finP
theorem zqr{n0:Int}{r:TWorld}:∀ (n:Nat),zms n0 (zdl n0 n) r:=by
  intro n
  induction n with
  | zero=>intro i w_00 h; unfold zdl at h; cases h
  | succ n ih=>intro i w_00 h; unfold zdl at h; exact zpt ih h
theorem zse{n0:Int}{r:TWorld} (h:zjo n0=some r):Spec Pg 18 [.int .i64 n0] [] 0 (.agg [sl TRaft.c r.R,sl TMsg.c r.Net]) [] 0:=by
  refine Spec.intro Go.Proofs.Try.func18 i18_ok (le_of_ble rfl) ?_
  show Wp Pg 26 0 i18_B ⟨argEnv _ i18_V,[],_,_⟩ (qf_18 r)
  unfold zjo at h
  unfold i18_B
  refine weakP [] ?_
  refine Wp.seq (regP (seqN (Wp.seq ?_)))
  refine regP (seqN (Wp.seq (Wp.seq ?_)))
  refine regP (seqN (Wp.block (Wp.loop ?_)))
  exact jumpL [.kill [5,10],.cell 3 0 (.virt 16),.tidy] (zqr _ h)
noncomputable abbrev qf_19(r:Int):Ex→St→Prop:=FinQ 0 [.tmp 2] (.int .i64 r) [] 0
theorem zsi{n0:Int}{r:Int} (h:zki n0=some r):Spec Pg 19 [.int .u8 n0] [] 0 (.int .i64 r) [] 0:=by
  refine Spec.intro Go.Proofs.Try.func19 i19_ok (le_of_ble rfl) ?_
  show Wp Pg 7 0 i19_B ⟨argEnv _ i19_V,[],_,_⟩ (qf_19 r)
  unfold zki at h
  unfold i19_B
  refine weakP [] ?_
  replace h:=retS h; subst h
  refine Wp.seq (regP (seqN (Wp.seq ?_)))
  refine regP (seqN (Wp.ret ?_))
  exact finP
noncomputable abbrev qf_28(r:(TRaft × (List TMsg))):Ex→St→Prop:=FinQ 0 [.cell 4 true 16,.tmp 5] (.tup [.agg [.int .i64 r.1.Id,.int .i64 r.1.N,.int .i64 r.1.Term,.int .i64 r.1.Vote,.int .i64 r.1.Role,.int .i64 r.1.Lead,.int .i64 r.1.Log.Base,.int .i64 r.1.Log.BaseTerm,sl TEntry.c r.1.Log.Entries,.int .i64 r.1.Commit,sl (ci .u8) r.1.Snap,sl cb r.1.Granted,sl (ci .i64) r.1.Next,sl (ci .i64) r.1.Match,.int .i64 r.1.Clock,.int .i64 r.1.Wait],sl TMsg.c r.2]) [] 0
theorem zlo{m_00 m_10 m_20 m_30 m_40 m_50 m_60 m_70:Int}{m_80:(List TEntry)}{m_90 ze zg:Int}{zf:(List Int)}{zh:(List Bool)}{zc zi:(List Int)}{zj:(List TMsg)}{r:(TRaft × (List TMsg))} (h:ziz m_00 m_10 m_20 m_30 m_40 m_50 m_60 m_70 m_80 m_90 ze zg zf zh zc zi zj=some r):Wp Pg 68 0 (.seq (.reg none i28_R8) .ret) ⟨[(0,.bad),(1,.bad),(2,.bad),(4,.ptr 0 0),(5,.bad),(6,.ptr 1 0),(18,.bad),(41,.bad)],[],(zsr (0:Int) (0:Int) (0:Int) (0:Int) (0:Int) (0:Int) (0:Int) (0:Int) (0:Int) (0:Int) (0:Int) m_00 m_10 m_20 m_30 m_40 m_50 m_60 m_70 m_80 m_90 zf zh zc zi ze zg zj),7⟩ (qf_28 r):=by
  unfold ziz at h
  refine Wp.seq (Wp.reg ?_)
  replace h:=bndS h; obtain ⟨r0_4,g8,h⟩:=h
  replace h:=retS h; subst h
  refine chunkF 2 (tab_cons (zjl g8) (tab_nil _)) ?_
  refine lastT (tab_nil _) (seqN ?_)
  refine weakP [.cell 4 10 .frz,.cell 4 11 .frz,.cell 4 12 .frz,.cell 4 13 .frz,.at 5 .frz] (Wp.ret ?_)
  exact finP
theorem znt{draw:Int}{r0_1:Tmember}{v41:Bool}{r:(TRaft × (List TMsg))} (h:zho draw r0_1 v41=some r):Wp Pg 68 0 (.cond (.t 41) (.reg none i28_R7) .skip) ⟨[(0,.bad),(1,.int .i64 draw),(2,.bad),(4,.ptr 0 0),(5,.bad),(6,.ptr 1 0),(18,.bad),(41,.bool v41)],[],(hp28 (0:Int) (0:Int) (0:Int) (0:Int) (0:Int) (0:Int) (0:Int) (0:Int) (0:Int) (0:Int) (0:Int) r0_1.Raft.Id r0_1.Raft.N r0_1.Raft.Term r0_1.Raft.Vote r0_1.Raft.Role r0_1.Raft.Lead r0_1.Raft.Log.Base r0_1.Raft.Log.BaseTerm r0_1.Raft.Log.Entries r0_1.Raft.Commit r0_1.Raft.Snap r0_1.Raft.Granted r0_1.Raft.Next r0_1.Raft.Match (IntKind.i64.wrap (r0_1.Raft.Clock + (1:Int))) r0_1.Raft.Wait r0_1.f_out),8⟩ (blockQ 0 (seqQ Pg 68 0 (.seq (.reg none i28_R8) .ret) (qf_28 r))):=by
  unfold zho at h
  replace h:=ifS h; rcases h with ⟨g6,h⟩ | ⟨g6,h⟩
  ·refine condTP (Wp.reg ?_)
   replace h:=bndS h; obtain ⟨r0_3,g7,h⟩:=h
   refine lastF (tab_cons (zpy g7) (tab_nil _)) (blockN (seqN ?_))
   exact jumpK [.kill [1,41],.tidy] (zlo h)
  ·refine condFP (Wp.skip (blockN (seqN ?_)))
   exact jumpK [.kill [1,41],.cell 6 8 .frz,.tidy] (zlo h)
theorem znu{draw:Int}{r0_1:Tmember}{v18:Bool}{r:(TRaft × (List TMsg))} (h:zja draw r0_1 v18=some r):Wp Pg 68 0 (.cond (.t 18) (.seq (.reg none i28_R4) (.reg none i28_R5)) (.seq (.reg (some []) i28_R6) (.cond (.t 41) (.reg none i28_R7) .skip))) ⟨[(0,.bad),(1,.int .i64 draw),(2,.bad),(4,.ptr 0 0),(5,.bad),(6,.ptr 1 0),(18,.bool v18),(41,.bad)],[],(hp28 (0:Int) (0:Int) (0:Int) (0:Int) (0:Int) (0:Int) (0:Int) (0:Int) (0:Int) (0:Int) (0:Int) r0_1.Raft.Id r0_1.Raft.N r0_1.Raft.Term r0_1.Raft.Vote r0_1.Raft.Role r0_1.Raft.Lead r0_1.Raft.Log.Base r0_1.Raft.Log.BaseTerm r0_1.Raft.Log.Entries r0_1.Raft.Commit r0_1.Raft.Snap r0_1.Raft.Granted r0_1.Raft.Next r0_1.Raft.Match (IntKind.i64.wrap (r0_1.Raft.Clock + (1:Int))) r0_1.Raft.Wait r0_1.f_out),8⟩ (blockQ 0 (seqQ Pg 68 0 (.seq (.reg none i28_R8) .ret) (qf_28 r))):=by
  unfold zja at h
  replace h:=ifS h; rcases h with ⟨g3,h⟩ | ⟨g3,h⟩
  ·refine condTP (Wp.seq ?_)
   refine regP (seqN (Wp.reg ?_))
   replace h:=bndS h; obtain ⟨r0_2,g4,h⟩:=h
   refine lastF (tab_cons (zpv g4) (tab_nil _)) (blockN (seqN ?_))
   exact jumpK [.kill [1,18],.tidy] (zlo h)
  ·refine condFP (Wp.seq ?_)
   replace h:=ifS h; rcases h with ⟨g5,h⟩ | ⟨g5,h⟩
   ·refine drawP [] mixed (clsN _) (seqN ?_)
    exact jumpK [.kill [18],.tidy] (znt h)
   ·refine drawP [] mixed (clsN _) (seqN ?_)
    exact jumpK [.kill [18],.tidy] (znt h)
theorem zsm{r0:TRaft}{draw:Int}{r:(TRaft × (List TMsg))} (h:zlf r0 draw=some r):Spec Pg 28 [.agg [.int .i64 r0.Id,.int .i64 r0.N,.int .i64 r0.Term,.int .i64 r0.Vote,.int .i64 r0.Role,.int .i64 r0.Lead,.int .i64 r0.Log.Base,.int .i64 r0.Log.BaseTerm,sl TEntry.c r0.Log.Entries,.int .i64 r0.Commit,sl (ci .u8) r0.Snap,sl cb r0.Granted,sl (ci .i64) r0.Next,sl (ci .i64) r0.Match,.int .i64 r0.Clock,.int .i64 r0.Wait],.int .i64 draw] [] 0 (.tup [.agg [.int .i64 r.1.Id,.int .i64 r.1.N,.int .i64 r.1.Term,.int .i64 r.1.Vote,.int .i64 r.1.Role,.int .i64 r.1.Lead,.int .i64 r.1.Log.Base,.int .i64 r.1.Log.BaseTerm,sl TEntry.c r.1.Log.Entries,.int .i64 r.1.Commit,sl (ci .u8) r.1.Snap,sl cb r.1.Granted,sl (ci .i64) r.1.Next,sl (ci .i64) r.1.Match,.int .i64 r.1.Clock,.int .i64 r.1.Wait],sl TMsg.c r.2]) [] 0:=by
  refine Spec.intro Go.Proofs.Try.func28 i28_ok (le_of_ble rfl) ?_
  show Wp Pg 68 0 i28_B ⟨argEnv _ i28_V,[],_,_⟩ (qf_28 r)
  unfold zlf at h
  unfold i28_B
  refine weakP [] ?_
  refine Wp.seq (regP (seqN (Wp.seq (Wp.reg ?_))))
  replace h:=bndS h; obtain ⟨r0_1,g1,h⟩:=h
  refine chunkF 2 (tab_cons (zmk g1) (tab_nil _)) ?_
  refine lastT (tab_nil _) (seqN (Wp.seq ?_))
  refine regP (seqN (Wp.seq (Wp.block (Wp.seq ?_))))
  replace h:=ifS h; rcases h with ⟨g2,h⟩ | ⟨g2,h⟩
  ·refine regP (seqN ?_)
   exact jumpK [.kill [0,2,5,41],.tidy] (znu h)
  ·refine regP (seqN ?_)
   exact jumpK [.kill [0,2,5,41],.tidy] (znu h)
noncomputable abbrev qf_29(r:(TRaft × Int × (List TMsg) × Int)):Ex→St→Prop:=FinQ 0 [.cell 4 true 16,.tmp 5,.tmp 6,.tmp 7] (.tup [.agg [.int .i64 r.1.Id,.int .i64 r.1.N,.int .i64 r.1.Term,.int .i64 r.1.Vote,.int .i64 r.1.Role,.int .i64 r.1.Lead,.int .i64 r.1.Log.Base,.int .i64 r.1.Log.BaseTerm,sl TEntry.c r.1.Log.Entries,.int .i64 r.1.Commit,sl (ci .u8) r.1.Snap,sl cb r.1.Granted,sl (ci .i64) r.1.Next,sl (ci .i64) r.1.Match,.int .i64 r.1.Clock,.int .i64 r.1.Wait],.int .i64 r.2.1,sl TMsg.c r.2.2.1,.int .i64 r.2.2.2]) [] 0
theorem zrk{r0:TRaft}{data:(List Int)}{r:(TRaft × Int × (List TMsg) × Int)} (h:zjb r0 data=some r):Spec Pg 29 [.agg [.int .i64 r0.Id,.int .i64 r0.N,.int .i64 r0.Term,.int .i64 r0.Vote,.int .i64 r0.Role,.int .i64 r0.Lead,.int .i64 r0.Log.Base,.int .i64 r0.Log.BaseTerm,sl TEntry.c r0.Log.Entries,.int .i64 r0.Commit,sl (ci .u8) r0.Snap,sl cb r0.Granted,sl (ci .i64) r0.Next,sl (ci .i64) r0.Match,.int .i64 r0.Clock,.int .i64 r0.Wait],sl (ci .u8) data] [] 0 (.tup [.agg [.int .i64 r.1.Id,.int .i64 r.1.N,.int .i64 r.1.Term,.int .i64 r.1.Vote,.int .i64 r.1.Role,.int .i64 r.1.Lead,.int .i64 r.1.Log.Base,.int .i64 r.1.Log.BaseTerm,sl TEntry.c r.1.Log.Entries,.int .i64 r.1.Commit,sl (ci .u8) r.1.Snap,sl cb r.1.Granted,sl (ci .i64) r.1.Next,sl (ci .i64) r.1.Match,.int .i64 r.1.Clock,.int .i64 r.1.Wait],.int .i64 r.2.1,sl TMsg.c r.2.2.1,.int .i64 r.2.2.2]) [] 0:=by
  refine Spec.intro Go.Proofs.Try.func29 i29_ok (le_of_ble rfl) ?_
  show Wp Pg 36 0 i29_B ⟨argEnv _ i29_V,[],_,_⟩ (qf_29 r)
  unfold zjb at h
  unfold i29_B
  refine weakP [] ?_
  refine Wp.seq (regP (seqN (Wp.seq (Wp.reg ?_))))
  replace h:=bndS h; obtain ⟨r0_1,g1,h⟩:=h
  refine chunkF 2 (tab_cons (zmk g1) (tab_nil _)) ?_
  refine lastT (tab_nil _) (seqN (Wp.seq (Wp.seq ?_)))
  refine regP (seqN ?_)
  replace h:=ifS h; rcases h with ⟨g2,h⟩ | ⟨g2,h⟩
  ·replace h:=retS h; subst h
   refine condTP (Wp.seq ?_)
   refine regP (seqN ?_)
   refine weakP [.cell 4 8 .frz,.cell 4 10 .frz,.cell 4 11 .frz,.cell 4 12 .frz,.cell 4 13 .frz,.at 6 .frz] (Wp.ret (seqR ?_))
   exact finP
  ·refine condFP (Wp.skip (seqN (Wp.seq (Wp.reg ?_))))
   replace h:=bndS h; obtain ⟨r0_2,g3,h⟩:=h
   refine lastF (tab_cons (znn g3) (tab_nil _)) (seqN (Wp.seq (Wp.reg ?_)))
   replace h:=bndS h; obtain ⟨r0_3,g4,h⟩:=h
   refine chunkF 2 (tab_cons (zjl g4) (tab_nil _)) ?_
   refine lastT (tab_nil _) (seqN (Wp.seq ?_))
   replace h:=bndS h; obtain ⟨r0_4,g5,h⟩:=h
   replace h:=retS h; subst h
   refine drawP [] mixed (clsC 3 (tab_cons (zbh g5) (tab_nil _)) (clsN _)) (seqN ?_)
   refine weakP [.cell 4 10 .frz,.cell 4 11 .frz,.cell 4 12 .frz,.cell 4 13 .frz,.at 6 .frz] (Wp.ret ?_)
   exact finP
end Go.Proofs.Ytgoachcogmlhcaa.R
