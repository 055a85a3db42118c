import Derived.Test.YtgoachcogmlhcaaMW0
import Derived.Test.YtgoachcogmlhcaaMW1
set_option maxRecDepth 100000
set_option maxHeartbeats 1600000
set_option linter.unusedVariables false
set_option linter.unusedSimpArgs false
set_option linter.defProp false
noncomputable section
namespace Go.Proofs.Ytgoachcogmlhcaa.R
open Go Nat
abbrev yapu(r:yab):Ex->St->Prop:=ycb 0 [.cell 2 true 2] (.agg [sl ye.c r.R,sl yj.c r.Net]) [] 0
abbrev zla (rec0:Int->(List ye)->(List yj)->Option yab)(r:yab):Prop:=∀ {i:Int} {w_00:(List ye)} {w_10:(List yj)},rec0 i w_00 w_10=some r->LWp Pg 18 0 yabf ⟨[(0,.bad),(1,.ptr 0 0),(2,.ptr 1 0),(3,.int .i64 i),(11,.bad)],[],[(0,.box [sl ye.c w_00,sl yj.c w_10]),(1,.box [.nil,.nil])],2⟩ (yay 0 (ybu Pg 18 0 (.seq (.reg none yaiw) .ret) (yapu r)))
theorem znn{i:Int}{w_00:(List ye)}{w_10:(List yj)}{v11:Bool}{r:yab}{zan:Int->(List ye)->(List yj)->Option yab}(zgy:zla zan r)(h:zil zan i w_00 w_10 v11=some r):Wp Pg 18 0 (.cond (.t 11) .skip (.out 0)) ⟨[(0,.bad),(1,.ptr 0 0),(2,.ptr 1 0),(3,.int .i64 i),(11,.bool v11)],[],[(0,.box [sl ye.c w_00,sl yj.c w_10]),(1,.box [.nil,.nil])],2⟩ (ybu Pg 18 0 (.seq (.block 1 (.reg none ybme)) (.reg none ybmf)) (ygz Pg 18 0 yabf (yay 0 (ybu Pg 18 0 (.seq (.reg none yaiw) .ret) (yapu r))))):=by
  unfold zil at h
  rcases ifS h with ⟨g2,h⟩ | ⟨g2,h⟩
  .refine yaq (Wp.skip (yh (Wp.seq (Wp.block (Wp.reg ?_)))))
   obtain ⟨r0,g3,h⟩:=yah h
   refine ybw 3 (yz (zop g3) (yp _)) ?_
   refine ybo (yp _) (ycm (yh ?_))
   refine yy (yho ?_)
   exact ydb [.kill [11]] (zgy h)
  .replace h:=ybd h; subst h
   refine yao (Wp.out (yjp (yhp (yfh (yh (Wp.seq ?_))))))
   refine yy (yh (Wp.ret ?_))
   exact yce
theorem zqt {r:yab} {zan:Int->(List ye)->(List yj)->Option yab}(zgy:zla zan r){i:Int}{w_00:(List ye)}{w_10:(List yj)}(h:zgv zan i w_00 w_10=some r):LWp Pg 18 0 yabf ⟨[(0,.bad),(1,.ptr 0 0),(2,.ptr 1 0),(3,.int .i64 i),(11,.bad)],[],[(0,.box [sl ye.c w_00,sl yj.c w_10]),(1,.box [.nil,.nil])],2⟩ (yay 0 (ybu Pg 18 0 (.seq (.reg none yaiw) .ret) (yapu r))):=by
  unfold zgv at h
  refine LWp.stepC yabf.eq_1 ?_
  refine Wp.seq (Wp.seq ?_)
  rcases ifS h with ⟨g1,h⟩ | ⟨g1,h⟩
  .refine yy (yh ?_)
   exact yad [] (znn zgy h)
  .refine yy (yh ?_)
   exact yad [] (znn zgy h)
theorem zrv {r:yab}:∀ (n:Nat),zla (zdr n) r:=by
  intro n
  induction n with
  | zero=>intro i w_00 w_10 h; unfold zdr at h; cases h
  | succ n ih=>intro i w_00 w_10 h; unfold zdr at h; exact zqt ih h
theorem zpo{w:yab}{r:yab} (h:zkh w=some r):yap Pg 26 [.agg [sl ye.c w.R,sl yj.c w.Net]] [] 0 (.agg [sl ye.c r.R,sl yj.c r.Net]) [] 0:=by
  refine yap.intro Try.func26 ybmg (yal rfl) ?_
  show Wp Pg 18 0 ybdq ⟨yaz _ ybdr,[],_,_⟩ (yapu r)
  unfold zkh at h
  unfold ybdq
  refine ybc [] ?_
  refine Wp.seq (yy (yh (Wp.seq (Wp.seq ?_))))
  refine yy (yh (Wp.block (Wp.loop ?_)))
  exact ydb [.kill [0,11],.tidy] (zrv _ h)
abbrev ybhu(r:yab):Ex->St->Prop:=ycb 0 [.cell 6 true 2] (.agg [sl ye.c r.R,sl yj.c r.Net]) [] 0
abbrev znd(who times:Int)(rec0:Int->(List ye)->(List yj)->Option yab)(r:yab):Prop:=∀ {i:Int} {w_00:(List ye)} {w_10:(List yj)},rec0 i w_00 w_10=some r->LWp Pg 20 0 yaix ⟨[(0,.bad),(1,.int .i64 who),(2,.int .i64 times),(3,.ptr 0 0),(6,.ptr 1 0),(7,.int .i64 i),(10,.bad)],[],[(0,.box [sl ye.c w_00,sl yj.c w_10]),(1,.box [.nil,.nil])],2⟩ (yay 0 (ybu Pg 20 0 (.seq (.reg none yasq) .ret) (ybhu r)))
theorem zqr{who times:Int}{r:yab} {zhy:Int->(List ye)->(List yj)->Option yab}(zqa:znd who times zhy r){i:Int}{w_00:(List ye)}{w_10:(List yj)}(h:zgt who times zhy i w_00 w_10=some r):LWp Pg 20 0 yaix ⟨[(0,.bad),(1,.int .i64 who),(2,.int .i64 times),(3,.ptr 0 0),(6,.ptr 1 0),(7,.int .i64 i),(10,.bad)],[],[(0,.box [sl ye.c w_00,sl yj.c w_10]),(1,.box [.nil,.nil])],2⟩ (yay 0 (ybu Pg 20 0 (.seq (.reg none yasq) .ret) (ybhu r))):=by
  unfold zgt at h
  refine LWp.stepC yaix.eq_1 ?_
  refine Wp.seq (Wp.seq (yy (yh ?_)))
  rcases ifS h with ⟨g1,h⟩ | ⟨g1,h⟩
  .refine yaq (Wp.skip (yh (Wp.seq (Wp.block (Wp.reg ?_)))))
   obtain ⟨r0,g2,h⟩:=yah h
   refine ybw 5 (yz (zop g2) (yp _)) ?_
   obtain ⟨r0_1,g3,h⟩:=yah h
   refine ybw 1 (yz (zpo g3) (yp _)) ?_
   refine ybo (yp _) (ycm (yh ?_))
   refine yy (yho ?_)
   exact ydb [.kill [10]] (zqa h)
  .replace h:=ybd h; subst h
   refine yao (Wp.out (yjp (yhp (yfh (yh (Wp.seq ?_))))))
   refine yy (yh (Wp.ret ?_))
   exact yce
theorem zrt{who times:Int}{r:yab}:∀ (n:Nat),znd who times (zdo who times n) r:=by
  intro n
  induction n with
  | zero=>intro i w_00 w_10 h; unfold zdo at h; cases h
  | succ n ih=>intro i w_00 w_10 h; unfold zdo at h; exact zqr ih h
theorem zpm{w:yab}{who:Int}{times:Int}{r:yab} (h:zhe w who times=some r):yap Pg 27 [.agg [sl ye.c w.R,sl yj.c w.Net],.int .i64 who,.int .i64 times] [] 0 (.agg [sl ye.c r.R,sl yj.c r.Net]) [] 0:=by
  refine yap.intro Try.func27 ybmh (yal rfl) ?_
  show Wp Pg 20 0 ybds ⟨yaz _ ybdt,[],_,_⟩ (ybhu r)
  unfold zhe at h
  unfold ybds
  refine ybc [] ?_
  refine Wp.seq (yy (yh (Wp.seq (Wp.seq ?_))))
  refine yy (yh (Wp.block (Wp.loop ?_)))
  exact ydb [.kill [0,10],.tidy] (zrt _ h)
abbrev ynq(r:Bool):Ex->St->Prop:=ycb 0 [.tmp 4] (.bool r) [] 0
abbrev zky(l:(List TOp))(rec0:Int->(List ye)->(List yj)->Option Bool)(r:Bool):Prop:=∀ {i:Int} {w_00:(List ye)} {w_10:(List yj)},rec0 i w_00 w_10=some r->LWp Pg 155 0 yapr ⟨[(0,.bad),(1,sl TOp.c l),(4,.bad),(5,.ptr 0 0),(6,.int .i64 i),(7,.bad),(8,.bad),(9,.bad),(10,.bad),(11,.bad),(12,.bad),(15,.bad),(23,.bad),(39,.bad),(53,.bad),(86,.bad),(106,.bad),(111,.bad),(153,.bad)],[],[(0,.box [sl ye.c w_00,sl yj.c w_10])],1⟩ (yay 0 (ybu Pg 155 0 (.seq (.reg none yaps) (.seq (.seq (.reg none yapt) (.block 2 (.loop yyk))) (.seq (.reg none yuv) (.seq (.seq (.reg none yuw) (.block 4 (.loop ypc))) (.seq (.reg none ymw) (.seq (.reg none ymx) (.seq (.seq (.reg (some [(5,8)]) ymy) (.cond (.t 106) (.seq (.reg none ylr) .ret) .skip)) (.seq (.seq (.reg none yls) (.block 6 (.loop ylf))) (.seq (.reg none yjk) .ret))))))))) (ynq r)))
abbrev zkz (rec0:Int->(List ye)->(List yj)->Option Bool)(r:Bool):Prop:=∀ {i_1:Int} {w_00_2:(List ye)} {w_10_2:(List yj)},rec0 i_1 w_00_2 w_10_2=some r->LWp Pg 155 0 yyk ⟨[(0,.bad),(1,.bad),(4,.bad),(5,.ptr 0 0),(6,.bad),(7,.int .i64 i_1),(8,.bad),(9,.bad),(10,.bad),(11,.bad),(12,.bad),(15,.bad),(23,.bad),(39,.bad),(53,.bad),(86,.bad),(106,.bad),(111,.bad),(153,.bad)],[],[(0,.box [sl ye.c w_00_2,sl yj.c w_10_2])],1⟩ (yay 2 (ybu Pg 155 0 (.seq (.reg none yuv) (.seq (.seq (.reg none yuw) (.block 4 (.loop ypc))) (.seq (.reg none ymw) (.seq (.reg none ymx) (.seq (.seq (.reg (some [(5,8)]) ymy) (.cond (.t 106) (.seq (.reg none ylr) .ret) .skip)) (.seq (.seq (.reg none yls) (.block 6 (.loop ylf))) (.seq (.reg none yjk) .ret))))))) (ynq r)))
abbrev zfp(w_00_3:(List ye))(w_10_3:(List yj))(rec0:Int->Int->Option Bool)(r:Bool):Prop:=∀ {top k:Int},rec0 top k=some r->LWp Pg 155 0 ypc ⟨[(0,.bad),(1,.bad),(4,.bad),(5,.ptr 0 0),(6,.bad),(7,.bad),(8,.int .i64 top),(9,.int .i64 k),(10,.bad),(11,.bad),(12,.bad),(15,.bad),(23,.bad),(39,.bad),(53,.bad),(86,.bad),(106,.bad),(111,.bad),(153,.bad)],[],[(0,.box [sl ye.c w_00_3,sl yj.c w_10_3])],1⟩ (yay 4 (ybu Pg 155 0 (.seq (.reg none ymw) (.seq (.reg none ymx) (.seq (.seq (.reg (some [(5,8)]) ymy) (.cond (.t 106) (.seq (.reg none ylr) .ret) .skip)) (.seq (.seq (.reg none yls) (.block 6 (.loop ylf))) (.seq (.reg none yjk) .ret))))) (ynq r)))
abbrev zig(r0_7:yab)(e_3:ye)(rec0:Int->Option Bool)(r:Bool):Prop:=∀ {k_1:Int},rec0 k_1=some r->LWp Pg 155 0 ylf ⟨[(0,.bad),(1,.bad),(4,.bad),(5,.ptr 0 0),(6,.bad),(7,.bad),(8,.bad),(9,.bad),(10,.ptr 1 0),(11,.int .i64 k_1),(12,.bad),(15,.bad),(23,.bad),(39,.bad),(53,.bad),(86,.bad),(106,.bad),(111,.bad),(153,.bad)],[],(hs1 e_3 r0_7.R r0_7.Net),2⟩ (yay 6 (ybu Pg 155 0 (.seq (.reg none yjk) .ret) (ynq r)))
theorem zot {r:Bool} (h:zjh=some r):Wp Pg 155 0 (.seq (.reg none yjk) .ret) ⟨[(0,.bad),(1,.bad),(4,.bad),(5,.bad),(6,.bad),(7,.bad),(8,.bad),(9,.bad),(10,.bad),(11,.bad),(12,.bad),(15,.bad),(23,.bad),(39,.bad),(53,.bad),(86,.bad),(106,.bad),(111,.bad),(153,.bad)],[],[],0⟩ (ynq r):=by
  unfold zjh at h
  refine Wp.seq (Wp.reg ?_)
  obtain ⟨r0_11,g33,h⟩:=yah h
  replace h:=ybd h; subst h
  refine ybw 1 (yz (zpp g33) (yp _)) ?_
  refine ybo (yp _) (yh (Wp.ret ?_))
  exact yce
theorem zdu{r0_7:yab}{e_3:ye}{k_1:Int}{v153:Bool}{r:Bool}{zm:Int->Option Bool}(zau:zig r0_7 e_3 zm r)(h:zbf zm k_1 v153=some r):Wp Pg 155 0 (.cond (.t 153) (.seq (.reg none ybpr) .ret) .skip) ⟨[(0,.bad),(1,.bad),(4,.bad),(5,.ptr 0 0),(6,.bad),(7,.bad),(8,.bad),(9,.bad),(10,.ptr 1 0),(11,.int .i64 k_1),(12,.bad),(15,.bad),(23,.bad),(39,.bad),(53,.bad),(86,.bad),(106,.bad),(111,.bad),(153,.bool v153)],[],(hs1 e_3 r0_7.R r0_7.Net),2⟩ (yay 7 (ybu Pg 155 0 (.reg none ybps) (ygz Pg 155 0 ylf (yay 6 (ybu Pg 155 0 (.seq (.reg none yjk) .ret) (ynq r)))))):=by
  unfold zbf at h
  rcases ifS h with ⟨g32,h⟩ | ⟨g32,h⟩
  .replace h:=ybd h; subst h
   refine yaq (Wp.seq ?_)
   refine yy (yh (Wp.ret (yfd (yde (yadm (yfd (yde ?_)))))))
   exact yce
  .refine yao (Wp.skip (ycm (yh ?_)))
   refine yy (yho ?_)
   exact ydb [.kill [153]] (zau h)
theorem znx{r0_7:yab}{e_3:ye}{r:Bool} {zm:Int->Option Bool}(zau:zig r0_7 e_3 zm r){k_1:Int}(h:zdn r0_7 e_3 zm k_1=some r):LWp Pg 155 0 ylf ⟨[(0,.bad),(1,.bad),(4,.bad),(5,.ptr 0 0),(6,.bad),(7,.bad),(8,.bad),(9,.bad),(10,.ptr 1 0),(11,.int .i64 k_1),(12,.bad),(15,.bad),(23,.bad),(39,.bad),(53,.bad),(86,.bad),(106,.bad),(111,.bad),(153,.bad)],[],(hs1 e_3 r0_7.R r0_7.Net),2⟩ (yay 6 (ybu Pg 155 0 (.seq (.reg none yjk) .ret) (ynq r))):=by
  unfold zdn at h
  refine LWp.stepC ylf.eq_1 ?_
  refine Wp.seq (Wp.seq (yy (yh ?_)))
  rcases ifS h with ⟨g24,h⟩ | ⟨g24,h⟩
  .refine yaq (Wp.skip (yh (Wp.seq (Wp.block (Wp.seq ?_)))))
   obtain ⟨e_4,g25,h⟩:=yah h
   refine yy (yh (Wp.seq ?_))
   rcases ifS h with ⟨g26,h⟩ | ⟨g26,h⟩
   .refine yav [] yau (ybh _) (yh ?_)
    exact yad [.kill [12,111],.tidy] (zdu (r0_7:=r0_7) (e_3:=e_3) zau h)
   .rcases ifS h with ⟨g27,h⟩ | ⟨g27,h⟩
    .refine yav [] yau (ybh _) (yh ?_)
     exact yad [.kill [12,111],.tidy] (zdu (r0_7:=r0_7) (e_3:=e_3) zau h)
    .rcases ifS h with ⟨g28,h⟩ | ⟨g28,h⟩
     .refine yav [] yau (ybh _) (yh ?_)
      exact yad [.kill [12,111],.tidy] (zdu (r0_7:=r0_7) (e_3:=e_3) zau h)
     .obtain ⟨r0_9,g29,h⟩:=yah h
      rcases ifS h with ⟨g30,h⟩ | ⟨g30,h⟩
      .refine yav [] yau (ydi 22 (yz (zgo g29) (yp _)) (ybh _)) (yh ?_)
       exact yad [.kill [12,111],.tidy] (zdu (r0_7:=r0_7) (e_3:=e_3) zau h)
      .obtain ⟨r0_10,g31,h⟩:=yah h
       refine yav [] yau (ydi 22 (yz (zgo g29) (yp _)) (ydi 32 (yz (zti g31) (yp _)) (ybh _))) (yh ?_)
       exact yad [.kill [12,111],.tidy] (zdu (r0_7:=r0_7) (e_3:=e_3) zau h)
  .refine yao (Wp.out (yjp (yhp (yfh (yh ?_)))))
   exact yad [.kill [5,10,11,111],.tidy] (zot h)
theorem zox{r0_7:yab}{e_3:ye}{r:Bool}:∀ (n:Nat),zig r0_7 e_3 (zbh r0_7 e_3 n) r:=by
  intro n
  induction n with
  | zero=>intro k_1 h; unfold zbh at h; cases h
  | succ n ih=>intro k_1 h; unfold zbh at h; exact znx ih h
theorem zlf{r0_7:yab}{e_3:ye}{v106:Bool}{r:Bool} (h:zet r0_7 e_3 v106=some r):Wp Pg 155 0 (.cond (.t 106) (.seq (.reg none ylr) .ret) .skip) ⟨[(0,.bad),(1,.bad),(4,.bad),(5,.ptr 0 0),(6,.bad),(7,.bad),(8,.bad),(9,.bad),(10,.ptr 1 0),(11,.bad),(12,.bad),(15,.bad),(23,.bad),(39,.bad),(53,.bad),(86,.bad),(106,.bool v106),(111,.bad),(153,.bad)],[],(hs1 e_3 r0_7.R r0_7.Net),2⟩ (ybu Pg 155 0 (.seq (.seq (.reg none yls) (.block 6 (.loop ylf))) (.seq (.reg none yjk) .ret)) (ynq r)):=by
  unfold zet at h
  rcases ifS h with ⟨g23,h⟩ | ⟨g23,h⟩
  .replace h:=ybd h; subst h
   refine yaq (Wp.seq ?_)
   refine yy (yh (Wp.ret (yde ?_)))
   exact yce
  .refine yao (Wp.skip (yh (Wp.seq (Wp.seq ?_))))
   refine yy (yh (Wp.block (Wp.loop ?_)))
   exact ydb [.kill [106]] (zox _ h)
theorem zos{w_00_3:(List ye)}{w_10_3:(List yj)}{top_2:Int}{r:Bool} (h:zes w_00_3 w_10_3 top_2=some r):Wp Pg 155 0 (.seq (.reg none ymw) (.seq (.reg none ymx) (.seq (.seq (.reg (some [(5,8)]) ymy) (.cond (.t 106) (.seq (.reg none ylr) .ret) .skip)) (.seq (.seq (.reg none yls) (.block 6 (.loop ylf))) (.seq (.reg none yjk) .ret))))) ⟨[(0,.bad),(1,.bad),(4,.bad),(5,.ptr 0 0),(6,.bad),(7,.bad),(8,.int .i64 top_2),(9,.bad),(10,.bad),(11,.bad),(12,.bad),(15,.bad),(23,.bad),(39,.bad),(53,.bad),(86,.bad),(106,.bad),(111,.bad),(153,.bad)],[],[(0,.box [sl ye.c w_00_3,sl yj.c w_10_3])],1⟩ (ynq r):=by
  unfold zes at h
  refine Wp.seq (Wp.reg ?_)
  obtain ⟨r0_7,g19,h⟩:=yah h
  refine ybw 3 (yz (zpm g19) (yp _)) ?_
  refine ybo (yp _) (yh (Wp.seq ?_))
  obtain ⟨e_3,g20,h⟩:=yah h
  refine yy (yh (Wp.seq (Wp.seq ?_)))
  rcases ifS h with ⟨g21,h⟩ | ⟨g21,h⟩
  .refine yav [] yau (ybh _) (yh ?_)
   exact yad [.kill [8],.tidy] (zlf h)
  .obtain ⟨r0_8,g22,h⟩:=yah h
   refine yav [] yau (ydi 8 (yz (zgo g22) (yp _)) (ybh _)) (yh ?_)
   exact yad [.kill [8],.tidy] (zlf h)
theorem zle{w_00_3:(List ye)}{w_10_3:(List yj)}{k top_1:Int}{r:Bool}{zj:Int->Int->Option Bool}(zad:zfp w_00_3 w_10_3 zj r)(h:zcs zj k top_1=some r):Wp Pg 155 0 (.reg none yatj) ⟨[(0,.bad),(1,.bad),(4,.bad),(5,.ptr 0 0),(6,.bad),(7,.bad),(8,.int .i64 top_1),(9,.int .i64 k),(10,.bad),(11,.bad),(12,.bad),(15,.bad),(23,.bad),(39,.bad),(53,.bad),(86,.bad),(106,.bad),(111,.bad),(153,.bad)],[],[(0,.box [sl ye.c w_00_3,sl yj.c w_10_3])],1⟩ (ygz Pg 155 0 ypc (yay 4 (ybu Pg 155 0 (.seq (.reg none ymw) (.seq (.reg none ymx) (.seq (.seq (.reg (some [(5,8)]) ymy) (.cond (.t 106) (.seq (.reg none ylr) .ret) .skip)) (.seq (.seq (.reg none yls) (.block 6 (.loop ylf))) (.seq (.reg none yjk) .ret))))) (ynq r)))):=by
  unfold zcs at h
  refine yy (yho ?_)
  exact ydb [] (zad h)
theorem zio{w_00_3:(List ye)}{w_10_3:(List yj)}{top k:Int}{v86:Bool}{r:Bool}{zj:Int->Int->Option Bool}(zad:zfp w_00_3 w_10_3 zj r)(h:zbe zj top k v86=some r):Wp Pg 155 0 (.cond (.t 86) (.reg none ybpq) .skip) ⟨[(0,.bad),(1,.bad),(4,.bad),(5,.ptr 0 0),(6,.bad),(7,.bad),(8,.int .i64 top),(9,.int .i64 k),(10,.bad),(11,.bad),(12,.bad),(15,.bad),(23,.bad),(39,.bad),(53,.bad),(86,.bool v86),(106,.bad),(111,.bad),(153,.bad)],[],[(0,.box [sl ye.c w_00_3,sl yj.c w_10_3])],1⟩ (yay 5 (ybu Pg 155 0 (.reg none yatj) (ygz Pg 155 0 ypc (yay 4 (ybu Pg 155 0 (.seq (.reg none ymw) (.seq (.reg none ymx) (.seq (.seq (.reg (some [(5,8)]) ymy) (.cond (.t 106) (.seq (.reg none ylr) .ret) .skip)) (.seq (.seq (.reg none yls) (.block 6 (.loop ylf))) (.seq (.reg none yjk) .ret))))) (ynq r)))))):=by
  unfold zbe at h
  rcases ifS h with ⟨g18,h⟩ | ⟨g18,h⟩
  .refine yaq ?_
   refine yy (ycm (yh ?_))
   exact yad [.kill [86]] (zle (w_00_3:=w_00_3) (w_10_3:=w_10_3) zad h)
  .refine yao (Wp.skip (ycm (yh ?_)))
   exact yad [.kill [86]] (zle (w_00_3:=w_00_3) (w_10_3:=w_10_3) zad h)
theorem znw{w_00_3:(List ye)}{w_10_3:(List yj)}{r:Bool} {zj:Int->Int->Option Bool}(zad:zfp w_00_3 w_10_3 zj r){top k:Int}(h:zdm w_00_3 w_10_3 zj top k=some r):LWp Pg 155 0 ypc ⟨[(0,.bad),(1,.bad),(4,.bad),(5,.ptr 0 0),(6,.bad),(7,.bad),(8,.int .i64 top),(9,.int .i64 k),(10,.bad),(11,.bad),(12,.bad),(15,.bad),(23,.bad),(39,.bad),(53,.bad),(86,.bad),(106,.bad),(111,.bad),(153,.bad)],[],[(0,.box [sl ye.c w_00_3,sl yj.c w_10_3])],1⟩ (yay 4 (ybu Pg 155 0 (.seq (.reg none ymw) (.seq (.reg none ymx) (.seq (.seq (.reg (some [(5,8)]) ymy) (.cond (.t 106) (.seq (.reg none ylr) .ret) .skip)) (.seq (.seq (.reg none yls) (.block 6 (.loop ylf))) (.seq (.reg none yjk) .ret))))) (ynq r))):=by
  unfold zdm at h
  refine LWp.stepC ypc.eq_1 ?_
  refine Wp.seq (Wp.seq (yy (yh ?_)))
  rcases ifS h with ⟨g13,h⟩ | ⟨g13,h⟩
  .refine yaq (Wp.skip (yh (Wp.seq (Wp.block (Wp.seq ?_)))))
   obtain ⟨e_1,g14,h⟩:=yah h
   rcases ifS h with ⟨g15,h⟩ | ⟨g15,h⟩
   .obtain ⟨e_2,g16,h⟩:=yah h
    rcases ifS h with ⟨g17,h⟩ | ⟨g17,h⟩
    .refine yav [] yau (ybh _) (yh ?_)
     exact yad [.kill [53],.tidy] (zio (w_00_3:=w_00_3) (w_10_3:=w_10_3) zad h)
    .refine yav [] yau (ybh _) (yh ?_)
     exact yad [.kill [53],.tidy] (zio (w_00_3:=w_00_3) (w_10_3:=w_10_3) zad h)
   .refine yav [] yau (ybh _) (yh ?_)
    exact yad [.kill [53],.tidy] (zio (w_00_3:=w_00_3) (w_10_3:=w_10_3) zad h)
  .refine yao (Wp.out (yjp (yhp (yfh (yh ?_)))))
   exact yad [.kill [9,53]] (zos h)
theorem zow{w_00_3:(List ye)}{w_10_3:(List yj)}{r:Bool}:∀ (n:Nat),zfp w_00_3 w_10_3 (zal w_00_3 w_10_3 n) r:=by
  intro n
  induction n with
  | zero=>intro top k h; unfold zal at h; cases h
  | succ n ih=>intro top k h; unfold zal at h; exact znw ih h
theorem zor{w_00_3:(List ye)}{w_10_3:(List yj)}{r:Bool} (h:zgp w_00_3 w_10_3=some r):Wp Pg 155 0 (.seq (.reg none yuv) (.seq (.seq (.reg none yuw) (.block 4 (.loop ypc))) (.seq (.reg none ymw) (.seq (.reg none ymx) (.seq (.seq (.reg (some [(5,8)]) ymy) (.cond (.t 106) (.seq (.reg none ylr) .ret) .skip)) (.seq (.seq (.reg none yls) (.block 6 (.loop ylf))) (.seq (.reg none yjk) .ret))))))) ⟨[(0,.bad),(1,.bad),(4,.bad),(5,.ptr 0 0),(6,.bad),(7,.bad),(8,.bad),(9,.bad),(10,.bad),(11,.bad),(12,.bad),(15,.bad),(23,.bad),(39,.bad),(53,.bad),(86,.bad),(106,.bad),(111,.bad),(153,.bad)],[],[(0,.box [sl ye.c w_00_3,sl yj.c w_10_3])],1⟩ (ynq r):=by
  unfold zgp at h
  refine Wp.seq (yy (yh (Wp.seq (Wp.seq ?_))))
  refine yy (yh (Wp.block (Wp.loop ?_)))
  exact ydb [] (zow _ h)
theorem znv {r:Bool} {zfc:Int->(List ye)->(List yj)->Option Bool}(znh:zkz zfc r){i_1:Int}{w_00_2:(List ye)}{w_10_2:(List yj)}(h:zdl zfc i_1 w_00_2 w_10_2=some r):LWp Pg 155 0 yyk ⟨[(0,.bad),(1,.bad),(4,.bad),(5,.ptr 0 0),(6,.bad),(7,.int .i64 i_1),(8,.bad),(9,.bad),(10,.bad),(11,.bad),(12,.bad),(15,.bad),(23,.bad),(39,.bad),(53,.bad),(86,.bad),(106,.bad),(111,.bad),(153,.bad)],[],[(0,.box [sl ye.c w_00_2,sl yj.c w_10_2])],1⟩ (yay 2 (ybu Pg 155 0 (.seq (.reg none yuv) (.seq (.seq (.reg none yuw) (.block 4 (.loop ypc))) (.seq (.reg none ymw) (.seq (.reg none ymx) (.seq (.seq (.reg (some [(5,8)]) ymy) (.cond (.t 106) (.seq (.reg none ylr) .ret) .skip)) (.seq (.seq (.reg none yls) (.block 6 (.loop ylf))) (.seq (.reg none yjk) .ret))))))) (ynq r))):=by
  unfold zdl at h
  refine LWp.stepC yyk.eq_1 ?_
  refine Wp.seq (Wp.seq (yy (yh ?_)))
  rcases ifS h with ⟨g10,h⟩ | ⟨g10,h⟩
  .refine yaq (Wp.skip (yh (Wp.seq (Wp.block ?_))))
   obtain ⟨g11,h⟩:=reqF h
   obtain ⟨r0_6,g12,h⟩:=yah h
   refine yav [] yau (ydi 6 (yz (zpm g12) (yp _)) (ybh _)) (ycm (yh ?_))
   refine yy (yho ?_)
   exact ydb [.kill [39],.tidy] (znh h)
  .refine yao (Wp.out (yjp (yhp (yfh (yh ?_)))))
   exact yad [.kill [7,39]] (zor h)
theorem zov {r:Bool}:∀ (n:Nat),zkz (zaa n) r:=by
  intro n
  induction n with
  | zero=>intro i_1 w_00_2 w_10_2 h; unfold zaa at h; cases h
  | succ n ih=>intro i_1 w_00_2 w_10_2 h; unfold zaa at h; exact znv ih h
theorem zoq{w_00_1:(List ye)}{w_10_1:(List yj)}{r:Bool} (h:zer w_00_1 w_10_1=some r):Wp Pg 155 0 (.seq (.reg none yaps) (.seq (.seq (.reg none yapt) (.block 2 (.loop yyk))) (.seq (.reg none yuv) (.seq (.seq (.reg none yuw) (.block 4 (.loop ypc))) (.seq (.reg none ymw) (.seq (.reg none ymx) (.seq (.seq (.reg (some [(5,8)]) ymy) (.cond (.t 106) (.seq (.reg none ylr) .ret) .skip)) (.seq (.seq (.reg none yls) (.block 6 (.loop ylf))) (.seq (.reg none yjk) .ret))))))))) ⟨[(0,.bad),(1,.bad),(4,.bad),(5,.ptr 0 0),(6,.bad),(7,.bad),(8,.bad),(9,.bad),(10,.bad),(11,.bad),(12,.bad),(15,.bad),(23,.bad),(39,.bad),(53,.bad),(86,.bad),(106,.bad),(111,.bad),(153,.bad)],[],[(0,.box [sl ye.c w_00_1,sl yj.c w_10_1])],1⟩ (ynq r):=by
  unfold zer at h
  refine Wp.seq (Wp.reg ?_)
  obtain ⟨r0_5,g9,h⟩:=yah h
  refine ybw 2 (yz (zpo g9) (yp _)) ?_
  refine ybo (yp _) (yh (Wp.seq (Wp.seq ?_)))
  refine yy (yh (Wp.block (Wp.loop ?_)))
  exact ydb [] (zov _ h)
theorem znu{l:(List TOp)}{r:Bool} {zfb:Int->(List ye)->(List yj)->Option Bool}(zng:zky l zfb r){i:Int}{w_00:(List ye)}{w_10:(List yj)}(h:zdk l zfb i w_00 w_10=some r):LWp Pg 155 0 yapr ⟨[(0,.bad),(1,sl TOp.c l),(4,.bad),(5,.ptr 0 0),(6,.int .i64 i),(7,.bad),(8,.bad),(9,.bad),(10,.bad),(11,.bad),(12,.bad),(15,.bad),(23,.bad),(39,.bad),(53,.bad),(86,.bad),(106,.bad),(111,.bad),(153,.bad)],[],[(0,.box [sl ye.c w_00,sl yj.c w_10])],1⟩ (yay 0 (ybu Pg 155 0 (.seq (.reg none yaps) (.seq (.seq (.reg none yapt) (.block 2 (.loop yyk))) (.seq (.reg none yuv) (.seq (.seq (.reg none yuw) (.block 4 (.loop ypc))) (.seq (.reg none ymw) (.seq (.reg none ymx) (.seq (.seq (.reg (some [(5,8)]) ymy) (.cond (.t 106) (.seq (.reg none ylr) .ret) .skip)) (.seq (.seq (.reg none yls) (.block 6 (.loop ylf))) (.seq (.reg none yjk) .ret))))))))) (ynq r))):=by
  unfold zdk at h
  refine LWp.stepC yapr.eq_1 ?_
  refine Wp.seq (Wp.seq (yy (yh ?_)))
  rcases ifS h with ⟨g6,h⟩ | ⟨g6,h⟩
  .refine yaq (Wp.skip (yh (Wp.seq (Wp.block ?_))))
   obtain ⟨e,g7,h⟩:=yah h
   obtain ⟨r0_4,g8,h⟩:=yah h
   refine yav [] yau (ydi 5 (yz (zop g8) (yp _)) (ybh _)) (ycm (yh ?_))
   refine yy (yho ?_)
   exact ydb [.kill [23],.tidy] (zng h)
  .refine yao (Wp.out (yjp (yhp (yfh (yh ?_)))))
   exact yad [.kill [1,6,23]] (zoq h)
theorem zou{l:(List TOp)}{r:Bool}:∀ (n:Nat),zky l (zbg l n) r:=by
  intro n
  induction n with
  | zero=>intro i w_00 w_10 h; unfold zbg at h; cases h
  | succ n ih=>intro i w_00 w_10 h; unfold zbg at h; exact znu ih h
theorem w_m_law15_RaftSettles{n0:Int}{l:(List TOp)}{r:Bool} (h:zir n0 l=some r):yap Pg 8 [.int .u8 n0,sl TOp.c l] [] 0 (.bool r) [] 0:=by
  refine yap.intro Try.func8 yccq (yal rfl) ?_
  show Wp Pg 155 0 i8_B ⟨yaz _ i8_V,[],_,_⟩ (ynq r)
  unfold zir at h
  unfold i8_B
  refine ybc [] ?_
  refine Wp.seq (yy (yh (Wp.seq (Wp.seq (Wp.reg ?_)))))
  obtain ⟨r0,g1,h⟩:=yah h
  refine ybw 2 (yz (ztj g1) (yp _)) ?_
  refine ybo (yp _) (yh ?_)
  rcases ifS h with ⟨g2,h⟩ | ⟨g2,h⟩
  .refine yao (Wp.skip (yh (Wp.seq (Wp.reg ?_))))
   obtain ⟨r0_2,g4,h⟩:=yah h
   refine ybw 2 (yz (ztn g4) (yp _)) ?_
   obtain ⟨r0_3,g5,h⟩:=yah h
   refine ybw 1 (yz (zth g5) (yp _)) ?_
   refine ybo (yp _) (yh (Wp.seq (Wp.seq ?_)))
   refine yy (yh (Wp.block (Wp.loop ?_)))
   exact ydb [.kill [0,4,7,8,9,10,11,12,15,23,39,53,86,106,111,153]] (zou _ h)
  .refine yaq (Wp.seq (Wp.reg ?_))
   obtain ⟨r0_1,g3,h⟩:=yah h
   replace h:=ybd h; subst h
   refine ybw 1 (yz (zpp g3) (yp _)) ?_
   refine ybo (yp _) (yh (Wp.ret (yde ?_)))
   exact yce
end Go.Proofs.Ytgoachcogmlhcaa.R
