import Derived.Test.YtgoachcogmlhcaaMW0
set_option maxRecDepth 100000
set_option maxHeartbeats 1600000
set_option linter.unusedVariables false
set_option linter.unusedSimpArgs false
set_option linter.defProp false
noncomputable section
namespace Go.Proofs.Ytgoachcogmlhcaa.R
open Go Nat
abbrev yagk(r:(List yk)):Ex->St->Prop:=ycb 0 [.tmp 2] (.own 2 0 0 r.length false) [(0,.arr 2 (List.map yk.c r) 0)] 1
abbrev znf(l:(List yk))(rec0:Int->(List yk)->Option (List yk))(r:(List yk)):Prop:=∀ {v8:Int} {out:(List yk)},rec0 v8 out=some r->LWp Pg 23 0 yajg ⟨[(0,.bad),(2,.bad),(3,.own 2 0 0 out.length false),(5,.bad),(6,sl yk.c l),(7,.int .i64 (l.length:Int)),(8,.int .i64 v8),(9,.bad)],[],[(0,.arr 2 (List.map yk.c out) 0)],1⟩ (yay 0 (ybu Pg 23 0 (.seq (.reg none yasx) .ret) (yagk r)))
theorem zqu{l:(List yk)}{r:(List yk)} {zia:Int->(List yk)->Option (List yk)}(zqc:znf l zia r){v8:Int}{out:(List yk)}(h:zgw l zia v8 out=some r):LWp Pg 23 0 yajg ⟨[(0,.bad),(2,.bad),(3,.own 2 0 0 out.length false),(5,.bad),(6,sl yk.c l),(7,.int .i64 (l.length:Int)),(8,.int .i64 v8),(9,.bad)],[],[(0,.arr 2 (List.map yk.c out) 0)],1⟩ (yay 0 (ybu Pg 23 0 (.seq (.reg none yasx) .ret) (yagk r))):=by
  unfold zgw at h
  refine LWp.stepC yajg.eq_1 ?_
  refine Wp.seq (yy (yh (Wp.seq ?_)))
  rcases ifS h with ⟨g1,h⟩ | ⟨g1,h⟩
  .refine yaq (Wp.skip (yh (Wp.seq (Wp.block (Wp.seq ?_)))))
   obtain ⟨e,g2,h⟩:=yah h
   refine yy (yh ?_)
   obtain ⟨g3,h⟩:=ygn h
   obtain ⟨g4,h⟩:=ygn h
   refine yav [] yau (ybh _) (ycm (yh ?_))
   refine yy (yho ?_)
   exact ydb [.kill [5,9],.tidy] (zqc h)
  .replace h:=ybd h; subst h
   refine yao (Wp.out (yjp (yhp (yfh (yh (Wp.seq ?_))))))
   refine yy (yh (Wp.ret ?_))
   exact ydj [.kill [3,6,7,8,9],.tidy]
theorem zrw{l:(List yk)}{r:(List yk)}:∀ (n:Nat),znf l (zds l n) r:=by
  intro n
  induction n with
  | zero=>intro v8 out h; unfold zds at h; cases h
  | succ n ih=>intro v8 out h; unfold zds at h; exact zqu ih h
theorem zkq{l:(List yk)}{r:(List yk)} (h:zgb l=some r):yap Pg 60 [sl yk.c l] [] 0 (.own 2 0 0 r.length false) [(0,.arr 2 (List.map yk.c r) 0)] 1:=by
  refine yap.intro Try.func60 ybns (yal rfl) ?_
  show Wp Pg 23 0 ybfa ⟨yaz _ ybfb,[],_,_⟩ (yagk r)
  unfold zgb at h
  unfold ybfa
  refine ybc [] ?_
  refine Wp.seq (yy (yh (Wp.seq ?_)))
  refine yy (yh (Wp.seq (Wp.seq ?_)))
  refine yy (yh (Wp.block (Wp.loop ?_)))
  exact ydb [.kill [0,2,5,9],.at 3 (.virt 2)] (zrw _ h)
abbrev ybza(r:yag):Ex->St->Prop:=ycb 0 [.cell 2 true 3] (.agg [.int .i64 r.yn,.int .i64 r.yv,.own 2 0 0 ((r.yi).length) false]) [(0,.arr 2 (List.map yk.c r.yi) 0)] 1
theorem zhh{l:yag}{r:yag} (h:zeu l=some r):yap Pg 34 [.agg [.int .i64 l.yn,.int .i64 l.yv,sl yk.c l.yi]] [] 0 (.agg [.int .i64 r.yn,.int .i64 r.yv,.own 2 0 0 ((r.yi).length) false]) [(0,.arr 2 (List.map yk.c r.yi) 0)] 1:=by
  refine yap.intro Try.func34 ybnc (yal rfl) ?_
  show Wp Pg 11 0 ybeg ⟨yaz _ ybeh,[],_,_⟩ (ybza r)
  unfold zeu at h
  unfold ybeg
  refine ybc [] ?_
  refine Wp.seq (yy (yh (Wp.seq ?_)))
  obtain ⟨r0,g1,h⟩:=yah h
  replace h:=ybd h; subst h
  refine yav [60] yau (ydi 6 (yz (zkq g1) (yp _)) (ybh _)) (yh (Wp.ret ?_))
  exact ydj [.kill [0,1],.tidy]
abbrev ybyz(r:ye):Ex->St->Prop:=ycb 0 [.cell 2 true 16] (.agg [.int .i64 r.Id,.int .i64 r.N,.int .i64 r.yc,.int .i64 r.yan,.int .i64 r.ym,.int .i64 r.yak,.int .i64 r.yg.yn,.int .i64 r.yg.yv,.own 2 0 0 ((r.yg.yi).length) false,.int .i64 r.yl,.own 1 1 0 ((r.yaf).length) false,.own 1 2 0 ((r.yq).length) false,.own 1 3 0 ((r.Next).length) false,.own 1 4 0 ((r.yaa).length) false,.int .i64 r.yu,.int .i64 r.yam]) [(0,.arr 2 (List.map yk.c r.yg.yi) 0),(1,.arr 1 (List.map (ci .u8) r.yaf) 0),(2,.arr 1 (List.map cb r.yq) 0),(3,.arr 1 (List.map (ci .i64) r.Next) 0),(4,.arr 1 (List.map (ci .i64) r.yaa) 0)] 5
theorem ztr{r0:ye}{r:ye} (h:zna r0=some r):yap Pg 31 [.agg [.int .i64 r0.Id,.int .i64 r0.N,.int .i64 r0.yc,.int .i64 r0.yan,.int .i64 r0.ym,.int .i64 r0.yak,.int .i64 r0.yg.yn,.int .i64 r0.yg.yv,sl yk.c r0.yg.yi,.int .i64 r0.yl,sl (ci .u8) r0.yaf,sl cb r0.yq,sl (ci .i64) r0.Next,sl (ci .i64) r0.yaa,.int .i64 r0.yu,.int .i64 r0.yam]] [] 0 (.agg [.int .i64 r.Id,.int .i64 r.N,.int .i64 r.yc,.int .i64 r.yan,.int .i64 r.ym,.int .i64 r.yak,.int .i64 r.yg.yn,.int .i64 r.yg.yv,.own 2 0 0 ((r.yg.yi).length) false,.int .i64 r.yl,.own 1 1 0 ((r.yaf).length) false,.own 1 2 0 ((r.yq).length) false,.own 1 3 0 ((r.Next).length) false,.own 1 4 0 ((r.yaa).length) false,.int .i64 r.yu,.int .i64 r.yam]) [(0,.arr 2 (List.map yk.c r.yg.yi) 0),(1,.arr 1 (List.map (ci .u8) r.yaf) 0),(2,.arr 1 (List.map cb r.yq) 0),(3,.arr 1 (List.map (ci .i64) r.Next) 0),(4,.arr 1 (List.map (ci .i64) r.yaa) 0)] 5:=by
  refine yap.intro Try.func31 ybmu (yal rfl) ?_
  show Wp Pg 24 0 ybea ⟨yaz _ ybeb,[],_,_⟩ (ybyz r)
  unfold zna at h
  unfold ybea
  refine ybc [] ?_
  refine Wp.seq (yy (yh (Wp.seq (Wp.reg ?_))))
  obtain ⟨r0_1,g1,h⟩:=yah h
  refine yjz 3 (yz (zhh g1) (yp _)) ?_
  refine ybo (yp _) (yh (Wp.seq ?_))
  obtain ⟨g2,h⟩:=ygn h
  obtain ⟨g3,h⟩:=ygn h
  refine yav [] yau (ybh _) (yh (Wp.seq ?_))
  obtain ⟨g4,h⟩:=ygn h
  obtain ⟨g5,h⟩:=ygn h
  replace h:=ybd h; subst h
  refine yav [] yau (ybh _) (yh (Wp.seq ?_))
  refine yy (yh (Wp.ret ?_))
  exact ydj [.kill [0,1],.tidy]
abbrev ybzb(r:yd):Ex->St->Prop:=ycb 0 [.tmp 2] (.ptr 0 0) (yjw r) 7
theorem znb{r0:ye}{r:yd} (h:zjz r0=some r):yap Pg 49 [.agg [.int .i64 r0.Id,.int .i64 r0.N,.int .i64 r0.yc,.int .i64 r0.yan,.int .i64 r0.ym,.int .i64 r0.yak,.int .i64 r0.yg.yn,.int .i64 r0.yg.yv,sl yk.c r0.yg.yi,.int .i64 r0.yl,sl (ci .u8) r0.yaf,sl cb r0.yq,sl (ci .i64) r0.Next,sl (ci .i64) r0.yaa,.int .i64 r0.yu,.int .i64 r0.yam]] [] 0 (.ptr 0 0) (yjw r) 7:=by
  refine yap.intro Try.func49 ybnl (yal rfl) ?_
  show Wp Pg 7 0 ybeq ⟨yaz _ yber,[],_,_⟩ (ybzb r)
  unfold zjz at h
  unfold ybeq
  refine ybc [] ?_
  refine Wp.seq (yy (yh (Wp.seq (Wp.reg ?_))))
  obtain ⟨r0_1,g1,h⟩:=yah h
  replace h:=ybd h; subst h
  refine yjz 2 (yz (ztr g1) (yp _)) ?_
  refine ybo (yp _) (yh (Wp.ret ?_))
  exact ydj [.cell 2 16 (.virt 11),.kill [0,1],.tidy]
abbrev ybzl(x0:yj)(r:yd):Ex->St->Prop:=ycb 7 [] (.tup []) (ztw r x0.yck) 8
theorem zms{to0:Int}{x0:yj}{m:yd}{r:yd} (h:zce to0 x0 m=some r):yap Pg 76 [.ptr 0 0,.int .i64 to0,.agg [.int .i64 x0.yae,.int .i64 x0.yhn,.int .i64 x0.From,.int .i64 x0.To,.int .i64 x0.yc,.int .i64 x0.At,.int .i64 x0.ybf,.int .i64 x0.yl,.bool x0.Ok,sl yk.c x0.yi,.own 1 6 0 ((x0.yck).length) false]] (zuh m x0.yck) 7 (.tup []) (ztw r x0.yck) 8:=by
  refine yap.intro Try.func76 yabg (yal rfl) ?_
  show Wp Pg 24 7 ytp ⟨yaz _ yadk,[],_,_⟩ (ybzl x0 r)
  unfold zce at h
  unfold ytp
  refine ybc [.movc 0 16] ?_
  refine Wp.seq (yy (yh (Wp.seq ?_)))
  refine yy (yh ?_)
  obtain ⟨g1,h⟩:=ygn h
  replace h:=ybd h; subst h
  refine yav [] yau (ybh _) ?_
  exact ydj [.kill [0,1,2,5],.tidy]
abbrev ydkp(r:Int):Ex->St->Prop:=ycb 0 [.tmp 2] (.int .i64 r) [] 0
theorem zbk{l:yag}{r:Int} (h:zaf l=some r):yap Pg 55 [.agg [.int .i64 l.yn,.int .i64 l.yv,sl yk.c l.yi]] [] 0 (.int .i64 r) [] 0:=by
  refine yap.intro Try.func55 ybnn (yal rfl) ?_
  show Wp Pg 9 0 ybeu ⟨yaz _ ybev,[],_,_⟩ (ydkp r)
  unfold zaf at h
  unfold ybeu
  refine ybc [] ?_
  replace h:=ybd h; subst h
  refine Wp.seq (yy (yh (Wp.seq ?_)))
  refine yy (yh (Wp.ret ?_))
  exact yce
abbrev ycda(r:(Int × Bool)):Ex->St->Prop:=ycb 0 [.tmp 4,.tmp 5] (.tup [.int .i64 r.1,.bool r.2]) [] 0
theorem zoz{l:yag}{at0:Int}{v13:Bool}{r:(Int × Bool)} (h:zjp l at0 v13=some r):Wp Pg 34 0 (.cond (.t 13) (.seq (.reg none ybnp) .ret) .skip) ⟨[(0,.bad),(1,.int .i64 at0),(2,.ptr 0 0),(4,.bad),(5,.bad),(6,.bad),(13,.bool v13)],[],[(0,.box [.int .i64 l.yn,.int .i64 l.yv,sl yk.c l.yi])],1⟩ (yay 0 (ybu Pg 34 0 (.seq (.reg none ybnq) .ret) (ycda r))):=by
  unfold zjp at h
  rcases ifS h with ⟨g4,h⟩ | ⟨g4,h⟩
  .replace h:=ybd h; subst h
   refine yaq (Wp.seq ?_)
   refine yy (yh (Wp.ret (yfd (yde ?_))))
   exact yce
  .refine yao (Wp.skip (ycm (yh (Wp.seq ?_))))
   obtain ⟨e,g5,h⟩:=yah h
   replace h:=ybd h; subst h
   refine yy (yh (Wp.ret ?_))
   exact yce
theorem zcr{l:yag}{at0:Int}{r:(Int × Bool)} (h:zbn l at0=some r):yap Pg 59 [.agg [.int .i64 l.yn,.int .i64 l.yv,sl yk.c l.yi],.int .i64 at0] [] 0 (.tup [.int .i64 r.1,.bool r.2]) [] 0:=by
  refine yap.intro Try.func59 ybnr (yal rfl) ?_
  show Wp Pg 34 0 ybey ⟨yaz _ ybez,[],_,_⟩ (ycda r)
  unfold zbn at h
  unfold ybey
  refine ybc [] ?_
  refine Wp.seq (yy (yh (Wp.seq (Wp.block (Wp.seq ?_)))))
  refine yy (yh ?_)
  rcases ifS h with ⟨g1,h⟩ | ⟨g1,h⟩
  .replace h:=ybd h; subst h
   refine yaq (Wp.seq ?_)
   refine yy (yh (Wp.ret (yfd (yde ?_))))
   exact yce
  .refine yao (Wp.seq (Wp.reg ?_))
   rcases ifS h with ⟨g2,h⟩ | ⟨g2,h⟩
   .refine ybo (yp _) (yh ?_)
    exact yad [.kill [0,4,5,6]] (zoz h)
   .obtain ⟨r0,g3,h⟩:=yah h
    refine ybw 8 (yz (zbk g3) (yp _)) ?_
    refine ybo (yp _) (yh ?_)
    exact yad [.kill [0,4,5,6]] (zoz h)
abbrev ycdb(r:(List yk)):Ex->St->Prop:=ycb 0 [.tmp 6] (sl yk.c r) [] 0
theorem zmg{l:yag}{at0 most:Int}{v21:Bool}{r:(List yk)} (h:zid l at0 most v21=some r):Wp Pg 37 0 (.cond (.t 21) (.seq (.reg none ybok) .ret) .skip) ⟨[(0,.bad),(1,.int .i64 at0),(2,.int .i64 most),(3,.ptr 0 0),(6,.bad),(7,.bad),(21,.bool v21)],[],[(0,.box [.int .i64 l.yn,.int .i64 l.yv,sl yk.c l.yi])],1⟩ (ybu Pg 37 0 (.seq (.reg none ybol) (.seq (.reg none ybom) .ret)) (ycdb r)):=by
  unfold zid at h
  rcases ifS h with ⟨g4,h⟩ | ⟨g4,h⟩
  .replace h:=ybd h; subst h
   refine yaq (Wp.seq ?_)
   refine yy (yh ?_)
   refine ybc [.at 6 .frz] (Wp.ret (yde ?_))
   exact yce
  .refine yao (Wp.skip (yh (Wp.seq ?_)))
   obtain ⟨l_1,g5,h⟩:=yah h
   refine yy (yh (Wp.seq (Wp.reg ?_)))
   obtain ⟨l_2,g6,h⟩:=yah h
   obtain ⟨r0_1,g7,h⟩:=yah h
   replace h:=ybd h; subst h
   refine yjz 7 (yz (zkq g7) (yp _)) ?_
   refine ybo (yp _) (yh ?_)
   refine ybc [.at 6 .frz] (Wp.ret ?_)
   exact yce
theorem zqz{l:yag}{at0:Int}{most:Int}{r:(List yk)} (h:zji l at0 most=some r):yap Pg 75 [.agg [.int .i64 l.yn,.int .i64 l.yv,sl yk.c l.yi],.int .i64 at0,.int .i64 most] [] 0 (sl yk.c r) [] 0:=by
  refine yap.intro Try.func75 ybon (yal rfl) ?_
  show Wp Pg 37 0 ybfm ⟨yaz _ ybfn,[],_,_⟩ (ycdb r)
  unfold zji at h
  unfold ybfm
  refine ybc [] ?_
  refine Wp.seq (yy (yh (Wp.seq (Wp.seq (Wp.reg ?_)))))
  rcases ifS h with ⟨g1,h⟩ | ⟨g1,h⟩
  .refine ybo (yp _) (yh ?_)
   exact yad [.kill [0,6,7]] (zmg h)
  .obtain ⟨r0,g2,h⟩:=yah h
   refine ybw 8 (yz (zbk g2) (yp _)) ?_
   rcases ifS h with ⟨g3,h⟩ | ⟨g3,h⟩
   .refine ybo (yp _) (yh ?_)
    exact yad [.kill [0,6,7]] (zmg h)
   .refine ybo (yp _) (yh ?_)
    exact yad [.kill [0,6,7]] (zmg h)
abbrev yaui(r:yd):Ex->St->Prop:=ycb 6 [] (.tup []) (yyg r) 7
theorem zkl{to0:Int}{m:yd}{x_0 x_5 x_6:Int}{x_9:(List yk)}{x_10:(List Int)}{r:yd} (h:zfw to0 m x_0 x_5 x_6 x_9 x_10=some r):Wp Pg 84 6 (.reg none yast) ⟨[(0,.ptr 0 0),(1,.int .i64 to0),(4,.bad),(5,.ptr 7 0),(33,.bad)],[],(hs61 m x_0 (0:Int) (0:Int) (0:Int) x_5 x_6 x_9 x_10),9⟩ (yaui r):=by
  unfold zfw at h
  refine Wp.reg ?_
  obtain ⟨r0_2,g6,h⟩:=yah h
  replace h:=ybd h; subst h
  refine yed (yz (zms g6) (yp _)) ?_
  exact ydj [.kill [0,1,5],.tidy]
theorem ziw{to0:Int}{m:yd}{r:yd} (h:zax to0 m=some r):yap Pg 51 [.ptr 0 0,.int .i64 to0] (zog m) 6 (.tup []) (yyg r) 7:=by
  refine yap.intro Try.func51 yasu (yal rfl) ?_
  show Wp Pg 84 6 yajd ⟨yaz _ yapk,[],_,_⟩ (yaui r)
  unfold zax at h
  unfold yajd
  refine ybc [.movc 0 16] ?_
  refine Wp.seq ?_
  obtain ⟨e,g1,h⟩:=yah h
  have:=yek (n:=1) (id:=3) (ex:=false) (k:=.i64) g1 rfl
  have:=ygq (c:=(ci .i64)) g1
  refine yy (yh (Wp.seq ?_))
  refine yav [] yau (ybh _) (yh (Wp.seq (Wp.seq ?_)))
  refine yy (yh ?_)
  rcases ifS h with ⟨g2,h⟩ | ⟨g2,h⟩
  .refine yaq ?_
   obtain ⟨g3,h⟩:=ygn h
   refine yav [] yau (ybh _) (yh ?_)
   exact yad [.kill [4,33],.cell 5 9 .frz,.tidy] (zkl h)
  .refine yao (Wp.seq ?_)
   refine yy (yh (Wp.seq ?_))
   obtain ⟨r0,g4,h⟩:=yah h
   refine yav [] yau (ydi 7 (yz (zcr g4) (yp _)) (ybh _)) (yh (Wp.reg ?_))
   obtain ⟨r0_1,g5,h⟩:=yah h
   refine ybw 7 (yz (zqz g5) (yp _)) ?_
   refine ybo (yp _) (yh ?_)
   exact yad [.kill [4,33],.cell 5 10 (.virt 1),.tidy] (zkl h)
abbrev yyy(r:yd):Ex->St->Prop:=ycb 7 [] (.tup []) (yus r) 8
abbrev zjg (rec0:Int->Int->Int->Int->Int->Int->Int->Int->Int->(List yk)->Int->Int->Int->(List Int)->(List Bool)->(List Int)->(List Int)->(List yj)->Option yd)(r:yd):Prop:=∀ {to0 m_00 m_10 m_20 m_30 m_40 m_50 m_60 m_70:Int} {m_80:(List yk)} {m_90 ze zh:Int} {zd:(List Int)} {zf:(List Bool)} {zb zg:(List Int)} {zi:(List yj)},rec0 to0 m_00 m_10 m_20 m_30 m_40 m_50 m_60 m_70 m_80 m_90 ze zh zd zf zb zg zi=some r->LWp Pg 24 7 yhc ⟨[(0,.ptr 0 0),(1,.fn (.func 51) [.ptr 0 0] []),(4,.int .i64 to0),(11,.bad),(20,.bad)],[],(hp44 m_00 m_10 m_20 m_30 m_40 m_50 m_60 m_70 m_80 m_90 zd zf zb zg ze zh zi),8⟩ (yay 0 (yyy r))
theorem zmd{to0 zbo zbp zbq zbr zbs zbt zbu zbv:Int}{zbw:(List yk)}{zbx zar zas:Int}{zao:(List Int)}{zap:(List Bool)}{zx zaq:(List Int)}{zat:(List yj)}{r:yd}{zab:Int->Int->Int->Int->Int->Int->Int->Int->Int->(List yk)->Int->Int->Int->(List Int)->(List Bool)->(List Int)->(List Int)->(List yj)->Option yd}(zfm:zjg zab r)(h:zhr zab to0 zbo zbp zbq zbr zbs zbt zbu zbv zbw zbx zar zas zao zap zx zaq zat=some r):Wp Pg 24 7 (.reg none yxn) ⟨[(0,.ptr 0 0),(1,.fn (.func 51) [.ptr 0 0] []),(4,.int .i64 to0),(11,.bad),(20,.bad)],[],(hp44 zbo zbp zbq zbr zbs zbt zbu zbv zbw zbx zao zap zx zaq zar zas zat),8⟩ (ygz Pg 24 7 yhc (yay 0 (yyy r))):=by
  unfold zhr at h
  refine yy (yho ?_)
  exact ydb [] (zfm h)
theorem zpc {r:yd} {zab:Int->Int->Int->Int->Int->Int->Int->Int->Int->(List yk)->Int->Int->Int->(List Int)->(List Bool)->(List Int)->(List Int)->(List yj)->Option yd}(zfm:zjg zab r){to0 m_00 m_10 m_20 m_30 m_40 m_50 m_60 m_70:Int}{m_80:(List yk)}{m_90 ze zh:Int}{zd:(List Int)}{zf:(List Bool)}{zb zg:(List Int)}{zi:(List yj)}(h:zjj zab to0 m_00 m_10 m_20 m_30 m_40 m_50 m_60 m_70 m_80 m_90 ze zh zd zf zb zg zi=some r):LWp Pg 24 7 yhc ⟨[(0,.ptr 0 0),(1,.fn (.func 51) [.ptr 0 0] []),(4,.int .i64 to0),(11,.bad),(20,.bad)],[],(hp44 m_00 m_10 m_20 m_30 m_40 m_50 m_60 m_70 m_80 m_90 zd zf zb zg ze zh zi),8⟩ (yay 0 (yyy r)):=by
  unfold zjj at h
  refine LWp.stepC yhc.eq_1 ?_
  refine Wp.seq (Wp.seq (yy (yh ?_)))
  rcases ifS h with ⟨g1,h⟩ | ⟨g1,h⟩
  .refine yaq (Wp.skip (yh (Wp.seq (Wp.block (Wp.seq ?_)))))
   refine yy (yh ?_)
   rcases ifS h with ⟨g2,h⟩ | ⟨g2,h⟩
   .refine yaq (Wp.reg ?_)
    obtain ⟨r0,g3,h⟩:=yah h
    refine yed (yz (ziw g3) (yp _)) (ycm (yh ?_))
    exact yad [.kill [11,20],.tidy] (zmd zfm h)
   .refine yao (Wp.skip (ycm (yh ?_)))
    exact yad [.kill [11,20]] (zmd zfm h)
  .replace h:=ybd h; subst h
   refine yao (Wp.out (yjp (yhp (yfh ?_))))
   exact ydj [.kill [0,1,4,11],.tidy]
theorem zpu {r:yd}:∀ (n:Nat),zjg (zea n) r:=by
  intro n
  induction n with
  | zero=>intro to0 m_00 m_10 m_20 m_30 m_40 m_50 m_60 m_70 m_80 m_90 ze zh zd zf zb zg zi h; unfold zea at h; cases h
  | succ n ih=>intro to0 m_00 m_10 m_20 m_30 m_40 m_50 m_60 m_70 m_80 m_90 ze zh zd zf zb zg zi h; unfold zea at h; exact zpc ih h
theorem zrd{m:yd}{r:yd} (h:zhk m=some r):yap Pg 50 [.ptr 0 0,.fn (.func 51) [.ptr 0 0] []] (yjw m) 7 (.tup []) (yus r) 8:=by
  refine yap.intro Try.func50 yxo (yal rfl) ?_
  show Wp Pg 24 7 yqn ⟨yaz _ yyi,[],_,_⟩ (yyy r)
  unfold zhk at h
  unfold yqn
  refine ybc [.movc 0 16,.movc 0 8] ?_
  refine Wp.seq (yy (yh (Wp.block (Wp.loop ?_))))
  exact ydb [.kill [11,20],.cell 0 8 .frz,.tidy] (zpu _ h)
abbrev yyz(r:yd):Ex->St->Prop:=ycb 6 [] (.tup []) (yyg r) 7
abbrev zhm (rec0:Int->Int->Int->Int->Int->Int->Int->Int->Int->(List yk)->Int->Int->Int->(List Int)->(List Bool)->(List Int)->(List Int)->(List yj)->Option yd)(r:yd):Prop:=∀ {to0 m_00 m_10 m_20 m_30 m_40 m_50 m_60 m_70:Int} {m_80:(List yk)} {m_90 ze zh:Int} {zd:(List Int)} {zf:(List Bool)} {zb zg:(List Int)} {zi:(List yj)},rec0 to0 m_00 m_10 m_20 m_30 m_40 m_50 m_60 m_70 m_80 m_90 ze zh zd zf zb zg zi=some r->LWp Pg 24 6 yhc ⟨[(0,.ptr 0 0),(1,.fn (.func 51) [.ptr 0 0] []),(4,.int .i64 to0),(11,.bad),(20,.bad)],[],(hp86 m_00 m_10 m_20 m_30 m_40 m_50 m_60 m_70 m_80 m_90 zd zf zb zg ze zh zi),7⟩ (yay 0 (yyz r))
theorem zks{to0 zbo zbp zbq zbr zbs zbt zbu zbv:Int}{zbw:(List yk)}{zbx zar zas:Int}{zao:(List Int)}{zap:(List Bool)}{zx zaq:(List Int)}{zat:(List yj)}{r:yd}{zq:Int->Int->Int->Int->Int->Int->Int->Int->Int->(List yk)->Int->Int->Int->(List Int)->(List Bool)->(List Int)->(List Int)->(List yj)->Option yd}(zdw:zhm zq r)(h:zgc zq to0 zbo zbp zbq zbr zbs zbt zbu zbv zbw zbx zar zas zao zap zx zaq zat=some r):Wp Pg 24 6 (.reg none yxn) ⟨[(0,.ptr 0 0),(1,.fn (.func 51) [.ptr 0 0] []),(4,.int .i64 to0),(11,.bad),(20,.bad)],[],(hp86 zbo zbp zbq zbr zbs zbt zbu zbv zbw zbx zao zap zx zaq zar zas zat),7⟩ (ygz Pg 24 6 yhc (yay 0 (yyz r))):=by
  unfold zgc at h
  refine yy (yho ?_)
  exact ydb [] (zdw h)
theorem zno {r:yd} {zq:Int->Int->Int->Int->Int->Int->Int->Int->Int->(List yk)->Int->Int->Int->(List Int)->(List Bool)->(List Int)->(List Int)->(List yj)->Option yd}(zdw:zhm zq r){to0 m_00 m_10 m_20 m_30 m_40 m_50 m_60 m_70:Int}{m_80:(List yk)}{m_90 ze zh:Int}{zd:(List Int)}{zf:(List Bool)}{zb zg:(List Int)}{zi:(List yj)}(h:zhs zq to0 m_00 m_10 m_20 m_30 m_40 m_50 m_60 m_70 m_80 m_90 ze zh zd zf zb zg zi=some r):LWp Pg 24 6 yhc ⟨[(0,.ptr 0 0),(1,.fn (.func 51) [.ptr 0 0] []),(4,.int .i64 to0),(11,.bad),(20,.bad)],[],(hp86 m_00 m_10 m_20 m_30 m_40 m_50 m_60 m_70 m_80 m_90 zd zf zb zg ze zh zi),7⟩ (yay 0 (yyz r)):=by
  unfold zhs at h
  refine LWp.stepC yhc.eq_1 ?_
  refine Wp.seq (Wp.seq (yy (yh ?_)))
  rcases ifS h with ⟨g1,h⟩ | ⟨g1,h⟩
  .refine yaq (Wp.skip (yh (Wp.seq (Wp.block (Wp.seq ?_)))))
   refine yy (yh ?_)
   rcases ifS h with ⟨g2,h⟩ | ⟨g2,h⟩
   .refine yaq (Wp.reg ?_)
    obtain ⟨r0,g3,h⟩:=yah h
    refine yed (yz (ziw g3) (yp _)) (ycm (yh ?_))
    exact yad [.kill [11,20],.tidy] (zks zdw h)
   .refine yao (Wp.skip (ycm (yh ?_)))
    exact yad [.kill [11,20]] (zks zdw h)
  .replace h:=ybd h; subst h
   refine yao (Wp.out (yjp (yhp (yfh ?_))))
   exact ydj [.kill [0,1,4,11],.tidy]
theorem zoh {r:yd}:∀ (n:Nat),zhm (zcf n) r:=by
  intro n
  induction n with
  | zero=>intro to0 m_00 m_10 m_20 m_30 m_40 m_50 m_60 m_70 m_80 m_90 ze zh zd zf zb zg zi h; unfold zcf at h; cases h
  | succ n ih=>intro to0 m_00 m_10 m_20 m_30 m_40 m_50 m_60 m_70 m_80 m_90 ze zh zd zf zb zg zi h; unfold zcf at h; exact zno ih h
theorem zpv{m:yd}{r:yd} (h:zft m=some r):yap Pg 50 [.ptr 0 0,.fn (.func 51) [.ptr 0 0] []] (hs68 m) 6 (.tup []) (yyg r) 7:=by
  refine yap.intro Try.func50 yxo (yal rfl) ?_
  show Wp Pg 24 6 yqn ⟨yaz _ yyi,[],_,_⟩ (yyz r)
  unfold zft at h
  unfold yqn
  refine ybc [.movc 0 16] ?_
  refine Wp.seq (yy (yh (Wp.block (Wp.loop ?_))))
  exact ydb [.kill [11,20],.cell 0 12 (.virt 1),.cell 0 13 (.virt 1),.tidy] (zoh _ h)
abbrev ybzm(r:yd):Ex->St->Prop:=ycb 7 [] (.tup []) (ztx r) 8
theorem zlp{to0:Int}{x0:yj}{m:yd}{r:yd} (h:zde to0 x0 m=some r):yap Pg 76 [.ptr 0 0,.int .i64 to0,.agg [.int .i64 x0.yae,.int .i64 x0.yhn,.int .i64 x0.From,.int .i64 x0.To,.int .i64 x0.yc,.int .i64 x0.At,.int .i64 x0.ybf,.int .i64 x0.yl,.bool x0.Ok,.nil,.nil]] (hs66 m) 7 (.tup []) (ztx r) 8:=by
  refine yap.intro Try.func76 yabg (yal rfl) ?_
  show Wp Pg 24 7 ytp ⟨yaz _ yadk,[],_,_⟩ (ybzm r)
  unfold zde at h
  unfold ytp
  refine ybc [.movc 0 16] ?_
  refine Wp.seq (yy (yh (Wp.seq ?_)))
  refine yy (yh ?_)
  obtain ⟨g1,h⟩:=ygn h
  replace h:=ybd h; subst h
  refine yav [] yau (ybh _) ?_
  exact ydj [.kill [0,1,2,5],.tidy]
abbrev ydkm(r:Int):Ex->St->Prop:=ycb 0 [.tmp 2] (.int .i64 r) [] 0
theorem zjm{l:yag}{r:Int} (h:zek l=some r):yap Pg 32 [.agg [.int .i64 l.yn,.int .i64 l.yv,sl yk.c l.yi]] [] 0 (.int .i64 r) [] 0:=by
  refine yap.intro Try.func32 ybmv (yal rfl) ?_
  show Wp Pg 13 0 ybec ⟨yaz _ ybed,[],_,_⟩ (ydkm r)
  unfold zek at h
  unfold ybec
  refine ybc [] ?_
  refine Wp.seq (yy (yh (Wp.seq ?_)))
  obtain ⟨r0,g1,h⟩:=yah h
  obtain ⟨r0_1,g2,h⟩:=yah h
  replace h:=ybd h; subst h
  refine yav [] yau (ydi 2 (yz (zbk g1) (yp _)) (ydi 3 (yz (zcr g2) (yp _)) (ybh _))) (yh (Wp.seq ?_))
  refine yy (yh (Wp.ret ?_))
  exact yce
abbrev ybzq(r:yd):Ex->St->Prop:=ycb 8 [] (.tup []) (zsu r) 9
theorem zpj{to0:Int}{b1:yd}{r:yd} (h:zdh to0 b1=some r):yap Pg 83 [.int .i64 to0,.ptr 0 0] (zty b1) 8 (.tup []) (zsu r) 9:=by
  refine yap.intro Try.func83 ybot (yal rfl) ?_
  show Wp Pg 24 8 ybfy ⟨yaz _ ybfz,[],_,_⟩ (ybzq r)
  unfold zdh at h
  unfold ybfy
  refine ybc [] ?_
  obtain ⟨r0,g1,h⟩:=yah h
  obtain ⟨r0_1,g2,h⟩:=yah h
  obtain ⟨r0_2,g3,h⟩:=yah h
  replace h:=ybd h; subst h
  refine yav [76] yau (ydi 12 (yz (zbk g1) (yp _)) (ydi 18 (yz (zjm g2) (yp _)) (ydi 20 (yz (zlp g3) (yp _)) (ybh _)))) ?_
  exact ydj [.kill [0,1],.tidy]
abbrev yza(r:yd):Ex->St->Prop:=ycb 8 [] (.tup []) (zsv r) 9
abbrev zhn (rec0:Int->Int->Int->Int->Int->Int->Int->Int->Int->Int->Int->Int->(List yk)->(List Int)->(List Bool)->(List Int)->(List Int)->(List yj)->Option yd)(r:yd):Prop:=∀ {to0 m_00 m_10 m_20 m_30 m_40 m_50 m_60 m_70 m_90 ze zh:Int} {m_80:(List yk)} {zd:(List Int)} {zf:(List Bool)} {zb zg:(List Int)} {zi:(List yj)},rec0 to0 m_00 m_10 m_20 m_30 m_40 m_50 m_60 m_70 m_90 ze zh m_80 zd zf zb zg zi=some r->LWp Pg 24 8 yhc ⟨[(0,.ptr 0 0),(1,.fn (.func 83) [] [.ptr 7 0]),(4,.int .i64 to0),(11,.bad),(20,.bad)],[],(hp92 m_00 m_10 m_20 m_30 m_40 m_50 m_60 m_70 m_80 m_90 zd zf zb zg ze zh zi),9⟩ (yay 0 (yza r))
theorem zkt{to0 zbo zbp zbq zbr zbs zbt zbu zbv zbx zar zas:Int}{zbw:(List yk)}{zao:(List Int)}{zap:(List Bool)}{zx zaq:(List Int)}{zat:(List yj)}{r:yd}{zr:Int->Int->Int->Int->Int->Int->Int->Int->Int->Int->Int->Int->(List yk)->(List Int)->(List Bool)->(List Int)->(List Int)->(List yj)->Option yd}(zdx:zhn zr r)(h:zgd zr to0 zbo zbp zbq zbr zbs zbt zbu zbv zbx zar zas zbw zao zap zx zaq zat=some r):Wp Pg 24 8 (.reg none yxn) ⟨[(0,.ptr 0 0),(1,.fn (.func 83) [] [.ptr 7 0]),(4,.int .i64 to0),(11,.bad),(20,.bad)],[],(hp92 zbo zbp zbq zbr zbs zbt zbu zbv zbw zbx zao zap zx zaq zar zas zat),9⟩ (ygz Pg 24 8 yhc (yay 0 (yza r))):=by
  unfold zgd at h
  refine yy (yho ?_)
  exact ydb [] (zdx h)
theorem znp {r:yd} {zr:Int->Int->Int->Int->Int->Int->Int->Int->Int->Int->Int->Int->(List yk)->(List Int)->(List Bool)->(List Int)->(List Int)->(List yj)->Option yd}(zdx:zhn zr r){to0 m_00 m_10 m_20 m_30 m_40 m_50 m_60 m_70 m_90 ze zh:Int}{m_80:(List yk)}{zd:(List Int)}{zf:(List Bool)}{zb zg:(List Int)}{zi:(List yj)}(h:zht zr to0 m_00 m_10 m_20 m_30 m_40 m_50 m_60 m_70 m_90 ze zh m_80 zd zf zb zg zi=some r):LWp Pg 24 8 yhc ⟨[(0,.ptr 0 0),(1,.fn (.func 83) [] [.ptr 7 0]),(4,.int .i64 to0),(11,.bad),(20,.bad)],[],(hp92 m_00 m_10 m_20 m_30 m_40 m_50 m_60 m_70 m_80 m_90 zd zf zb zg ze zh zi),9⟩ (yay 0 (yza r)):=by
  unfold zht at h
  refine LWp.stepC yhc.eq_1 ?_
  refine Wp.seq (Wp.seq (yy (yh ?_)))
  rcases ifS h with ⟨g1,h⟩ | ⟨g1,h⟩
  .refine yaq (Wp.skip (yh (Wp.seq (Wp.block (Wp.seq ?_)))))
   refine yy (yh ?_)
   rcases ifS h with ⟨g2,h⟩ | ⟨g2,h⟩
   .refine yaq (Wp.reg ?_)
    obtain ⟨r0,g3,h⟩:=yah h
    refine yed (yz (zpj g3) (yp _)) (ycm (yh ?_))
    exact yad [.kill [11,20],.tidy] (zkt zdx h)
   .refine yao (Wp.skip (ycm (yh ?_)))
    exact yad [.kill [11,20]] (zkt zdx h)
  .replace h:=ybd h; subst h
   refine yao (Wp.out (yjp (yhp (yfh ?_))))
   exact ydj [.cell 0 11 (.virt 1),.kill [0,1,4,11],.tidy]
theorem zoi {r:yd}:∀ (n:Nat),zhn (zcg n) r:=by
  intro n
  induction n with
  | zero=>intro to0 m_00 m_10 m_20 m_30 m_40 m_50 m_60 m_70 m_90 ze zh m_80 zd zf zb zg zi h; unfold zcg at h; cases h
  | succ n ih=>intro to0 m_00 m_10 m_20 m_30 m_40 m_50 m_60 m_70 m_90 ze zh m_80 zd zf zb zg zi h; unfold zcg at h; exact znp ih h
theorem zme{m:yd}{r:yd} (h:zfu m=some r):yap Pg 50 [.ptr 0 0,.fn (.func 83) [] [.ptr 7 0]] (hs92 m) 8 (.tup []) (zsv r) 9:=by
  refine yap.intro Try.func50 yxo (yal rfl) ?_
  show Wp Pg 24 8 yqn ⟨yaz _ yyi,[],_,_⟩ (yza r)
  unfold zfu at h
  unfold yqn
  refine ybc [.movc 0 16] ?_
  refine Wp.seq (yy (yh (Wp.block (Wp.loop ?_))))
  exact ydb [.kill [11,20],.tidy] (zoi _ h)
abbrev ybzp(r:yd):Ex->St->Prop:=ycb 8 [] (.tup []) (zsu r) 9
theorem zql{to0:Int}{b1:yd}{r:yd} (h:zen to0 b1=some r):yap Pg 78 [.int .i64 to0,.ptr 0 0] (zty b1) 8 (.tup []) (zsu r) 9:=by
  refine yap.intro Try.func78 ybop (yal rfl) ?_
  show Wp Pg 25 8 ybfq ⟨yaz _ ybfr,[],_,_⟩ (ybzp r)
  unfold zen at h
  unfold ybfq
  refine ybc [] ?_
  obtain ⟨r0,g1,h⟩:=yah h
  obtain ⟨r0_1,g2,h⟩:=yah h
  obtain ⟨r0_2,g3,h⟩:=yah h
  replace h:=ybd h; subst h
  refine yav [76] yau (ydi 13 (yz (zbk g1) (yp _)) (ydi 19 (yz (zjm g2) (yp _)) (ydi 21 (yz (zlp g3) (yp _)) (ybh _)))) ?_
  exact ydj [.kill [0,1],.tidy]
abbrev yzb(r:yd):Ex->St->Prop:=ycb 8 [] (.tup []) (zsv r) 9
abbrev zho (rec0:Int->Int->Int->Int->Int->Int->Int->Int->Int->Int->Int->Int->(List yk)->(List Int)->(List Bool)->(List Int)->(List Int)->(List yj)->Option yd)(r:yd):Prop:=∀ {to0 m_00 m_10 m_20 m_30 m_40 m_50 m_60 m_70 m_90 ze zh:Int} {m_80:(List yk)} {zd:(List Int)} {zf:(List Bool)} {zb zg:(List Int)} {zi:(List yj)},rec0 to0 m_00 m_10 m_20 m_30 m_40 m_50 m_60 m_70 m_90 ze zh m_80 zd zf zb zg zi=some r->LWp Pg 24 8 yhc ⟨[(0,.ptr 0 0),(1,.fn (.func 78) [] [.ptr 7 0]),(4,.int .i64 to0),(11,.bad),(20,.bad)],[],(hp92 m_00 m_10 m_20 m_30 m_40 m_50 m_60 m_70 m_80 m_90 zd zf zb zg ze zh zi),9⟩ (yay 0 (yzb r))
theorem zku{to0 zbo zbp zbq zbr zbs zbt zbu zbv zbx zar zas:Int}{zbw:(List yk)}{zao:(List Int)}{zap:(List Bool)}{zx zaq:(List Int)}{zat:(List yj)}{r:yd}{zt:Int->Int->Int->Int->Int->Int->Int->Int->Int->Int->Int->Int->(List yk)->(List Int)->(List Bool)->(List Int)->(List Int)->(List yj)->Option yd}(zdy:zho zt r)(h:zge zt to0 zbo zbp zbq zbr zbs zbt zbu zbv zbx zar zas zbw zao zap zx zaq zat=some r):Wp Pg 24 8 (.reg none yxn) ⟨[(0,.ptr 0 0),(1,.fn (.func 78) [] [.ptr 7 0]),(4,.int .i64 to0),(11,.bad),(20,.bad)],[],(hp92 zbo zbp zbq zbr zbs zbt zbu zbv zbw zbx zao zap zx zaq zar zas zat),9⟩ (ygz Pg 24 8 yhc (yay 0 (yzb r))):=by
  unfold zge at h
  refine yy (yho ?_)
  exact ydb [] (zdy h)
theorem znq {r:yd} {zt:Int->Int->Int->Int->Int->Int->Int->Int->Int->Int->Int->Int->(List yk)->(List Int)->(List Bool)->(List Int)->(List Int)->(List yj)->Option yd}(zdy:zho zt r){to0 m_00 m_10 m_20 m_30 m_40 m_50 m_60 m_70 m_90 ze zh:Int}{m_80:(List yk)}{zd:(List Int)}{zf:(List Bool)}{zb zg:(List Int)}{zi:(List yj)}(h:zhv zt to0 m_00 m_10 m_20 m_30 m_40 m_50 m_60 m_70 m_90 ze zh m_80 zd zf zb zg zi=some r):LWp Pg 24 8 yhc ⟨[(0,.ptr 0 0),(1,.fn (.func 78) [] [.ptr 7 0]),(4,.int .i64 to0),(11,.bad),(20,.bad)],[],(hp92 m_00 m_10 m_20 m_30 m_40 m_50 m_60 m_70 m_80 m_90 zd zf zb zg ze zh zi),9⟩ (yay 0 (yzb r)):=by
  unfold zhv at h
  refine LWp.stepC yhc.eq_1 ?_
  refine Wp.seq (Wp.seq (yy (yh ?_)))
  rcases ifS h with ⟨g1,h⟩ | ⟨g1,h⟩
  .refine yaq (Wp.skip (yh (Wp.seq (Wp.block (Wp.seq ?_)))))
   refine yy (yh ?_)
   rcases ifS h with ⟨g2,h⟩ | ⟨g2,h⟩
   .refine yaq (Wp.reg ?_)
    obtain ⟨r0,g3,h⟩:=yah h
    refine yed (yz (zql g3) (yp _)) (ycm (yh ?_))
    exact yad [.kill [11,20],.tidy] (zku zdy h)
   .refine yao (Wp.skip (ycm (yh ?_)))
    exact yad [.kill [11,20]] (zku zdy h)
  .replace h:=ybd h; subst h
   refine yao (Wp.out (yjp (yhp (yfh ?_))))
   exact ydj [.cell 0 11 (.virt 1),.kill [0,1,4,11],.tidy]
theorem zoj {r:yd}:∀ (n:Nat),zho (zch n) r:=by
  intro n
  induction n with
  | zero=>intro to0 m_00 m_10 m_20 m_30 m_40 m_50 m_60 m_70 m_90 ze zh m_80 zd zf zb zg zi h; unfold zch at h; cases h
  | succ n ih=>intro to0 m_00 m_10 m_20 m_30 m_40 m_50 m_60 m_70 m_90 ze zh m_80 zd zf zb zg zi h; unfold zch at h; exact znq ih h
theorem zpw{m:yd}{r:yd} (h:zhu m=some r):yap Pg 50 [.ptr 0 0,.fn (.func 78) [] [.ptr 7 0]] (hs92 m) 8 (.tup []) (zsv r) 9:=by
  refine yap.intro Try.func50 yxo (yal rfl) ?_
  show Wp Pg 24 8 yqn ⟨yaz _ yyi,[],_,_⟩ (yzb r)
  unfold zhu at h
  unfold yqn
  refine ybc [.movc 0 16] ?_
  refine Wp.seq (yy (yh (Wp.block (Wp.loop ?_))))
  exact ydb [.kill [11,20],.tidy] (zoj _ h)
abbrev yzc(r:yd):Ex->St->Prop:=ycb 6 [] (.tup []) (yyg r) 7
abbrev zhp (rec0:Int->Int->Int->Int->Int->Int->Int->Int->Int->(List yk)->Int->Int->Int->(List Int)->(List Bool)->(List Int)->(List Int)->(List yj)->Option yd)(r:yd):Prop:=∀ {to0 m_00 m_10 m_20 m_30 m_40 m_50 m_60 m_70:Int} {m_80:(List yk)} {m_90 ze zh:Int} {zd:(List Int)} {zf:(List Bool)} {zb zg:(List Int)} {zi:(List yj)},rec0 to0 m_00 m_10 m_20 m_30 m_40 m_50 m_60 m_70 m_80 m_90 ze zh zd zf zb zg zi=some r->LWp Pg 24 6 yhc ⟨[(0,.ptr 0 0),(1,.fn (.func 51) [.ptr 0 0] []),(4,.int .i64 to0),(11,.bad),(20,.bad)],[],(hp86 m_00 m_10 m_20 m_30 m_40 m_50 m_60 m_70 m_80 m_90 zd zf zb zg ze zh zi),7⟩ (yay 0 (yzc r))
theorem zkv{to0 zbo zbp zbq zbr zbs zbt zbu zbv:Int}{zbw:(List yk)}{zbx zar zas:Int}{zao:(List Int)}{zap:(List Bool)}{zx zaq:(List Int)}{zat:(List yj)}{r:yd}{zu:Int->Int->Int->Int->Int->Int->Int->Int->Int->(List yk)->Int->Int->Int->(List Int)->(List Bool)->(List Int)->(List Int)->(List yj)->Option yd}(zdz:zhp zu r)(h:zgf zu to0 zbo zbp zbq zbr zbs zbt zbu zbv zbw zbx zar zas zao zap zx zaq zat=some r):Wp Pg 24 6 (.reg none yxn) ⟨[(0,.ptr 0 0),(1,.fn (.func 51) [.ptr 0 0] []),(4,.int .i64 to0),(11,.bad),(20,.bad)],[],(hp86 zbo zbp zbq zbr zbs zbt zbu zbv zbw zbx zao zap zx zaq zar zas zat),7⟩ (ygz Pg 24 6 yhc (yay 0 (yzc r))):=by
  unfold zgf at h
  refine yy (yho ?_)
  exact ydb [] (zdz h)
theorem znr {r:yd} {zu:Int->Int->Int->Int->Int->Int->Int->Int->Int->(List yk)->Int->Int->Int->(List Int)->(List Bool)->(List Int)->(List Int)->(List yj)->Option yd}(zdz:zhp zu r){to0 m_00 m_10 m_20 m_30 m_40 m_50 m_60 m_70:Int}{m_80:(List yk)}{m_90 ze zh:Int}{zd:(List Int)}{zf:(List Bool)}{zb zg:(List Int)}{zi:(List yj)}(h:zhw zu to0 m_00 m_10 m_20 m_30 m_40 m_50 m_60 m_70 m_80 m_90 ze zh zd zf zb zg zi=some r):LWp Pg 24 6 yhc ⟨[(0,.ptr 0 0),(1,.fn (.func 51) [.ptr 0 0] []),(4,.int .i64 to0),(11,.bad),(20,.bad)],[],(hp86 m_00 m_10 m_20 m_30 m_40 m_50 m_60 m_70 m_80 m_90 zd zf zb zg ze zh zi),7⟩ (yay 0 (yzc r)):=by
  unfold zhw at h
  refine LWp.stepC yhc.eq_1 ?_
  refine Wp.seq (Wp.seq (yy (yh ?_)))
  rcases ifS h with ⟨g1,h⟩ | ⟨g1,h⟩
  .refine yaq (Wp.skip (yh (Wp.seq (Wp.block (Wp.seq ?_)))))
   refine yy (yh ?_)
   rcases ifS h with ⟨g2,h⟩ | ⟨g2,h⟩
   .refine yaq (Wp.reg ?_)
    obtain ⟨r0,g3,h⟩:=yah h
    refine yed (yz (ziw g3) (yp _)) (ycm (yh ?_))
    exact yad [.kill [11,20],.tidy] (zkv zdz h)
   .refine yao (Wp.skip (ycm (yh ?_)))
    exact yad [.kill [11,20]] (zkv zdz h)
  .replace h:=ybd h; subst h
   refine yao (Wp.out (yjp (yhp (yfh ?_))))
   exact ydj [.kill [0,1,4,11],.tidy]
theorem zok {r:yd}:∀ (n:Nat),zhp (zci n) r:=by
  intro n
  induction n with
  | zero=>intro to0 m_00 m_10 m_20 m_30 m_40 m_50 m_60 m_70 m_80 m_90 ze zh zd zf zb zg zi h; unfold zci at h; cases h
  | succ n ih=>intro to0 m_00 m_10 m_20 m_30 m_40 m_50 m_60 m_70 m_80 m_90 ze zh zd zf zb zg zi h; unfold zci at h; exact znr ih h
theorem zpx{m:yd}{r:yd} (h:zfv m=some r):yap Pg 50 [.ptr 0 0,.fn (.func 51) [.ptr 0 0] []] (zog m) 6 (.tup []) (yyg r) 7:=by
  refine yap.intro Try.func50 yxo (yal rfl) ?_
  show Wp Pg 24 6 yqn ⟨yaz _ yyi,[],_,_⟩ (yzc r)
  unfold zfv at h
  unfold yqn
  refine ybc [.movc 0 16] ?_
  refine Wp.seq (yy (yh (Wp.block (Wp.loop ?_))))
  exact ydb [.kill [11,20],.tidy] (zok _ h)
abbrev yauh(r:yd):Ex->St->Prop:=ycb 7 [] (.tup []) (yus r) 8
theorem zls{to0:Int}{m:yd}{x_0 x_5 x_6:Int}{x_9:(List yk)}{x_10:(List Int)}{r:yd} (h:zhd to0 m x_0 x_5 x_6 x_9 x_10=some r):Wp Pg 84 7 (.reg none yast) ⟨[(0,.ptr 0 0),(1,.int .i64 to0),(4,.bad),(5,.ptr 8 0),(33,.bad)],[],(hs37 m x_0 (0:Int) (0:Int) (0:Int) x_5 x_6 x_9 x_10),10⟩ (yauh r):=by
  unfold zhd at h
  refine Wp.reg ?_
  obtain ⟨r0_2,g6,h⟩:=yah h
  replace h:=ybd h; subst h
  refine yed (yz (zms g6) (yp _)) ?_
  exact ydj [.kill [0,1,5],.drop [1],.tidy]
theorem zqw{to0:Int}{m:yd}{r:yd} (h:zfh to0 m=some r):yap Pg 51 [.ptr 0 0,.int .i64 to0] (yjw m) 7 (.tup []) (yus r) 8:=by
  refine yap.intro Try.func51 yasu (yal rfl) ?_
  show Wp Pg 84 7 yajd ⟨yaz _ yapk,[],_,_⟩ (yauh r)
  unfold zfh at h
  unfold yajd
  refine ybc [.movc 0 16] ?_
  refine Wp.seq ?_
  obtain ⟨e,g1,h⟩:=yah h
  have:=yek (n:=1) (id:=4) (ex:=false) (k:=.i64) g1 rfl
  have:=ygq (c:=(ci .i64)) g1
  refine yy (yh (Wp.seq ?_))
  refine yav [] yau (ybh _) (yh (Wp.seq (Wp.seq ?_)))
  refine yy (yh ?_)
  rcases ifS h with ⟨g2,h⟩ | ⟨g2,h⟩
  .refine yaq ?_
   obtain ⟨g3,h⟩:=ygn h
   refine yav [] yau (ybh _) (yh ?_)
   exact yad [.kill [4,33],.cell 5 9 .frz,.cell 0 8 .frz,.tidy] (zls h)
  .refine yao (Wp.seq ?_)
   refine yy (yh (Wp.seq ?_))
   obtain ⟨r0,g4,h⟩:=yah h
   refine yav [] yau (ydi 7 (yz (zcr g4) (yp _)) (ybh _)) (yh (Wp.reg ?_))
   obtain ⟨r0_1,g5,h⟩:=yah h
   refine ybw 7 (yz (zqz g5) (yp _)) ?_
   refine ybo (yp _) (yh ?_)
   exact yad [.kill [4,33],.cell 5 10 (.virt 1),.cell 0 8 .frz,.tidy] (zls h)
abbrev yauj(r:yd):Ex->St->Prop:=ycb 7 [] (.tup []) (zsw r) 10
theorem zkw{lead:Int}{m:yd}{m_20 m_30:Int}{r:yd} (h:zeg lead m m_20 m_30=some r):Wp Pg 43 7 (.seq (.reg none yasy) (.reg none yasz)) ⟨[(0,.ptr 0 0),(1,.bad),(2,.int .i64 lead),(12,.bad)],[],(hs64 m m_20 m_30),7⟩ (yauj r):=by
  unfold zeg at h
  replace h:=ybd h; subst h
  refine Wp.seq (yy (yh ?_))
  refine yy ?_
  exact ydj [.cell 0 11 (.virt 1),.cell 0 12 (.virt 1),.cell 0 13 (.virt 1),.kill [0,2],.drop [3,4,5],.tidy]
theorem zex{term:Int}{lead:Int}{m:yd}{r:yd} (h:zam term lead m=some r):yap Pg 66 [.ptr 0 0,.int .i64 term,.int .i64 lead] (yjw m) 7 (.tup []) (zsw r) 10:=by
  refine yap.intro Try.func66 yata (yal rfl) ?_
  show Wp Pg 43 7 yajh ⟨yaz _ yapn,[],_,_⟩ (yauj r)
  unfold zam at h
  unfold yajh
  refine ybc [] ?_
  refine Wp.seq (Wp.seq (yy (yh ?_)))
  rcases ifS h with ⟨g1,h⟩ | ⟨g1,h⟩
  .refine yaq ?_
   refine yy (yh ?_)
   exact yad [.kill [1,12]] (zkw h)
  .refine yao (Wp.skip (yh ?_))
   exact yad [.kill [1,12]] (zkw h)
abbrev ydkv(r:Int):Ex->St->Prop:=ycb 0 [.tmp 2] (.int .i64 r) [] 0
theorem zof{n0:Int}{r:Int} (h:zhc n0=some r):yap Pg 88 [.int .i64 n0] [] 0 (.int .i64 r) [] 0:=by
  refine yap.intro Try.func88 ybpk (yal rfl) ?_
  show Wp Pg 8 0 ybgi ⟨yaz _ ybgj,[],_,_⟩ (ydkv r)
  unfold zhc at h
  unfold ybgi
  refine ybc [] ?_
  refine Wp.seq (yy (yh (Wp.seq (Wp.seq ?_))))
  refine yy (yh ?_)
  rcases ifS h with ⟨g1,h⟩ | ⟨g1,h⟩
  .replace h:=ybd h; subst h
   refine yaq (Wp.seq ?_)
   refine yy (yh (Wp.ret (yde ?_)))
   exact yce
  .replace h:=ybd h; subst h
   refine yao (Wp.skip (yh (Wp.seq ?_)))
   refine yy (yh (Wp.ret ?_))
   exact yce
abbrev yapw(r:Bool):Ex->St->Prop:=ycb 0 [.tmp 2] (.bool r) [] 0
abbrev zoa(l:(List Bool))(rec0:Int->Int->Option Bool)(r:Bool):Prop:=∀ {n0 v8:Int},rec0 n0 v8=some r->LWp Pg 26 0 yajp ⟨[(0,sl cb l),(2,.bad),(3,.int .i64 n0),(5,.bad),(6,sl cb l),(7,.int .i64 (l.length:Int)),(8,.int .i64 v8),(9,.bad),(12,.bad)],[],[],0⟩ (yay 0 (ybu Pg 26 0 (.seq (.reg none yajq) .ret) (yapw r)))
theorem zsm{l:(List Bool)}{n0_1:Int}{r:Bool} (h:zkp l n0_1=some r):Wp Pg 26 0 (.seq (.reg none yajq) .ret) ⟨[(0,sl cb l),(2,.bad),(3,.int .i64 n0_1),(5,.bad),(6,.bad),(7,.bad),(8,.bad),(9,.bad),(12,.bad)],[],[],0⟩ (yapw r):=by
  unfold zkp at h
  refine Wp.seq (Wp.reg ?_)
  rcases ifS h with ⟨g4,h⟩ | ⟨g4,h⟩
  .obtain ⟨r0,g5,h⟩:=yah h
   replace h:=ybd h; subst h
   refine ybw 8 (yz (zof g5) (yp _)) ?_
   refine ybo (yp _) (yh (Wp.ret ?_))
   exact yce
  .replace h:=ybd h; subst h
   refine ybo (yp _) (yh (Wp.ret ?_))
   exact yce
theorem zrc{l:(List Bool)}{r:Bool} {zgi:Int->Int->Option Bool}(zml:zoa l zgi r){n0 v8:Int}(h:zhj l zgi n0 v8=some r):LWp Pg 26 0 yajp ⟨[(0,sl cb l),(2,.bad),(3,.int .i64 n0),(5,.bad),(6,sl cb l),(7,.int .i64 (l.length:Int)),(8,.int .i64 v8),(9,.bad),(12,.bad)],[],[],0⟩ (yay 0 (ybu Pg 26 0 (.seq (.reg none yajq) .ret) (yapw r))):=by
  unfold zhj at h
  refine LWp.stepC yajp.eq_1 ?_
  refine Wp.seq (yy (yh (Wp.seq ?_)))
  rcases ifS h with ⟨g1,h⟩ | ⟨g1,h⟩
  .refine yaq (Wp.skip (yh (Wp.seq (Wp.block (Wp.seq ?_)))))
   obtain ⟨e,g2,h⟩:=yah h
   refine yy (yh (Wp.seq ?_))
   refine yy (yh ?_)
   rcases ifS h with ⟨g3,h⟩ | ⟨g3,h⟩
   .refine yaq ?_
    refine yy (ycm (yh ?_))
    refine yy (yho ?_)
    exact ydb [.kill [5,9,12]] (zml h)
   .refine yao (Wp.skip (ycm (yh ?_)))
    refine yy (yho ?_)
    exact ydb [.kill [5,9,12]] (zml h)
  .refine yao (Wp.out (yjp (yhp (yfh (yh ?_)))))
   exact yad [.kill [6,7,8,9]] (zsm h)
theorem zsn{l:(List Bool)}{r:Bool}:∀ (n:Nat),zoa l (zel l n) r:=by
  intro n
  induction n with
  | zero=>intro n0 v8 h; unfold zel at h; cases h
  | succ n ih=>intro n0 v8 h; unfold zel at h; exact zrc ih h
theorem zqk{l:(List Bool)}{r:Bool} (h:zjq l=some r):yap Pg 82 [sl cb l] [] 0 (.bool r) [] 0:=by
  refine yap.intro Try.func82 ybos (yal rfl) ?_
  show Wp Pg 26 0 ybfw ⟨yaz _ ybfx,[],_,_⟩ (yapw r)
  unfold zjq at h
  unfold ybfw
  refine ybc [] ?_
  refine Wp.seq (yy (yh (Wp.seq ?_)))
  refine yy (yh (Wp.seq (Wp.seq ?_)))
  refine yy (yh (Wp.block (Wp.loop ?_)))
  exact ydb [.kill [2,5,9,12]] (zsn _ h)
abbrev ybzh(r:(Bool × yd)):Ex->St->Prop:=ycb 7 [.tmp 4] (.bool r.1) (hs66 r.2) 7
theorem zjy{who:Int}{m:yd}{r:(Bool × yd)} (h:zbl who m=some r):yap Pg 68 [.ptr 0 0,.int .i64 who] (hs66 m) 7 (.bool r.1) (hs66 r.2) 7:=by
  refine yap.intro Try.func68 yate (yal rfl) ?_
  show Wp Pg 19 7 yajj ⟨yaz _ yapo,[],_,_⟩ (ybzh r)
  unfold zbl at h
  unfold yajj
  refine ybc [] ?_
  refine Wp.seq (yy (yh (Wp.seq ?_)))
  obtain ⟨e,g1,h⟩:=yah h
  have:=yek (n:=1) (id:=3) (ex:=true) (k:=.i64) g1 rfl
  have:=ygq (c:=cb) g1
  have:=ylc cb m.yb.yq (IntKind.i64.wrap (who - (1:Int))) true
  try simp only [EV,EVt, *] at this
  refine yy (yh (Wp.seq (Wp.reg ?_)))
  obtain ⟨r0,g2,h⟩:=yah h
  replace h:=ybd h; subst h
  refine ybw 6 (yz (zqk g2) (yp _)) ?_
  refine ybo (yp _) (yh (Wp.ret ?_))
  exact ydj [.kill [0,1],.tidy]
abbrev yauk(r:yd):Ex->St->Prop:=ycb 7 [] (.tup []) (zsw r) 10
theorem zjx{lead:Int}{m:yd}{m_20 m_30:Int}{r:yd} (h:zez lead m m_20 m_30=some r):Wp Pg 43 7 (.seq (.reg none yasy) (.reg none yasz)) ⟨[(0,.ptr 0 0),(1,.bad),(2,.int .i64 lead),(12,.bad)],[],(hs65 m m_20 m_30),7⟩ (yauk r):=by
  unfold zez at h
  replace h:=ybd h; subst h
  refine Wp.seq (yy (yh ?_))
  refine yy ?_
  exact ydj [.cell 0 11 (.virt 1),.cell 0 12 (.virt 1),.cell 0 13 (.virt 1),.kill [0,2],.drop [3,4,5],.tidy]
theorem zkx{term:Int}{lead:Int}{m:yd}{r:yd} (h:zck term lead m=some r):yap Pg 66 [.ptr 0 0,.int .i64 term,.int .i64 lead] (hs66 m) 7 (.tup []) (zsw r) 10:=by
  refine yap.intro Try.func66 yata (yal rfl) ?_
  show Wp Pg 43 7 yajh ⟨yaz _ yapn,[],_,_⟩ (yauk r)
  unfold zck at h
  unfold yajh
  refine ybc [] ?_
  refine Wp.seq (Wp.seq (yy (yh ?_)))
  rcases ifS h with ⟨g1,h⟩ | ⟨g1,h⟩
  .refine yaq ?_
   refine yy (yh ?_)
   exact yad [.kill [1,12]] (zjx h)
  .refine yao (Wp.skip (yh ?_))
   exact yad [.kill [1,12]] (zjx h)
abbrev ydfu(r:Bool):Ex->St->Prop:=ycb 0 [.tmp 2] (.bool r) [] 0
theorem zob{x0:Int}{r:Bool} (h:zjc x0=some r):yap Pg 109 [.int .i64 x0] [] 0 (.bool r) [] 0:=by
  refine yap.intro Try.func109 yayu (yal rfl) ?_
  show Wp Pg 6 0 yasm ⟨yaz _ yasn,[],_,_⟩ (ydfu r)
  unfold zjc at h
  unfold yasm
  refine ybc [] ?_
  replace h:=ybd h; subst h
  refine Wp.seq (yy (yh (Wp.seq ?_)))
  refine yy (yh (Wp.ret ?_))
  exact yce
abbrev ybzs(r:Bool):Ex->St->Prop:=ycb 0 [.tmp 4] (.bool r) [] 0
theorem zso{x0:Int}{y:Int}{r:Bool} (h:zjn x0 y=some r):yap Pg 99 [.int .i64 x0,.int .i64 y] [] 0 (.bool r) [] 0:=by
  refine yap.intro Try.func99 ybpz (yal rfl) ?_
  show Wp Pg 17 0 ybgu ⟨yaz _ ybgv,[],_,_⟩ (ybzs r)
  unfold zjn at h
  unfold ybgu
  refine ybc [] ?_
  refine Wp.seq (yy (yh (Wp.seq (Wp.reg ?_))))
  obtain ⟨r0,g1,h⟩:=yah h
  refine ybw 2 (yz (zob g1) (yp _)) ?_
  rcases ifS h with ⟨g2,h⟩ | ⟨g2,h⟩
  .obtain ⟨r0_1,g3,h⟩:=yah h
   refine ybw 3 (yz (zob g3) (yp _)) ?_
   rcases ifS h with ⟨g4,h⟩ | ⟨g4,h⟩
   .replace h:=ybd h; subst h
    refine ybo (yp _) (yh (Wp.ret ?_))
    exact ydj [.kill [0,1],.tidy]
   .replace h:=ybd h; subst h
    refine ybo (yp _) (yh (Wp.ret ?_))
    exact ydj [.kill [0,1],.tidy]
  .replace h:=ybd h; subst h
   refine ybo (yp _) (yh (Wp.ret ?_))
   exact ydj [.kill [0,1],.tidy]
abbrev ypj(r:(List Int)):Ex->St->Prop:=ycb 1 [] (.tup []) [(0,.arr 1 (List.map (ci .i64) r) 0)] 1
abbrev zy(a b:Int)(rec0:Int->(List Int)->Option (List Int))(r:(List Int)):Prop:=∀ {i:Int} {data_1:(List Int)},rec0 i data_1=some r->LWp Pg 49 1 ysw ⟨[(0,.own 1 0 0 data_1.length false),(1,.int .i64 a),(2,.int .i64 b),(6,.int .i64 i),(7,.bad),(12,.bad),(30,.bad)],[],[(0,.arr 1 (List.map (ci .i64) data_1) 0)],1⟩ (yay 0 (ypj r))
abbrev zcw(a b i:Int)(rec0:Int->(List Int)->Option (List Int))(r:(List Int)):Prop:=∀ {j:Int} {data_2:(List Int)},rec0 j data_2=some r->LWp Pg 49 1 yabh ⟨[(0,.own 1 0 0 data_2.length false),(1,.int .i64 a),(2,.int .i64 b),(6,.int .i64 i),(7,.int .i64 j),(12,.bad),(30,.bad)],[],[(0,.arr 1 (List.map (ci .i64) data_2) 0)],1⟩ (yay 2 (yay 1 (ybu Pg 49 1 (.reg none yabi) (ygz Pg 49 1 ysw (yay 0 (ypj r))))))
theorem zkm{a b i:Int}{data_3:(List Int)}{r:(List Int)}{za:Int->(List Int)->Option (List Int)}(zk:zy a b za r)(h:zaw za i data_3=some r):Wp Pg 49 1 (.reg none yabi) ⟨[(0,.own 1 0 0 data_3.length false),(1,.int .i64 a),(2,.int .i64 b),(6,.int .i64 i),(7,.bad),(12,.bad),(30,.bad)],[],[(0,.arr 1 (List.map (ci .i64) data_3) 0)],1⟩ (ygz Pg 49 1 ysw (yay 0 (ypj r))):=by
  unfold zaw at h
  refine yy (yho ?_)
  exact ydb [] (zk h)
theorem zgj{a b i j:Int}{data_2:(List Int)}{v30:Bool}{r:(List Int)}{zl:Int->(List Int)->Option (List Int)}{za:Int->(List Int)->Option (List Int)}(zba:zcw a b i zl r)(zk:zy a b za r)(h:zac zl za i j data_2 v30=some r):Wp Pg 49 1 (.cond (.t 30) .skip (.out 2)) ⟨[(0,.own 1 0 0 data_2.length false),(1,.int .i64 a),(2,.int .i64 b),(6,.int .i64 i),(7,.int .i64 j),(12,.bad),(30,.bool v30)],[],[(0,.arr 1 (List.map (ci .i64) data_2) 0)],1⟩ (ybu Pg 49 1 (.seq (.block 3 (.reg (some []) ybpw)) (.reg none ybpx)) (ygz Pg 49 1 yabh (yay 2 (yay 1 (ybu Pg 49 1 (.reg none yabi) (ygz Pg 49 1 ysw (yay 0 (ypj r)))))))):=by
  unfold zac at h
  rcases ifS h with ⟨g6,h⟩ | ⟨g6,h⟩
  .refine yaq (Wp.skip (yh (Wp.seq (Wp.block ?_))))
   obtain ⟨e_2,g7,h⟩:=yah h
   obtain ⟨e_3,g8,h⟩:=yah h
   obtain ⟨e_4,g9,h⟩:=yah h
   have:=yek (n:=1) (id:=0) (ex:=false) (k:=.i64) g7 rfl
   have:=ygq (c:=(ci .i64)) g7
   have:=yek (n:=1) (id:=0) (ex:=false) (k:=.i64) g8 rfl
   have:=ygq (c:=(ci .i64)) g8
   have:=ylc (ci .i64) data_2 j e_2
   try simp only [EV,EVt, *] at this
   have:=yek (n:=1) (id:=0) (ex:=false) (k:=.i64) g9 rfl
   try simp only [EV,EVt, *] at this
   have:=ygq (c:=(ci .i64)) g9
   try simp only [EV,EVt, *] at this
   have:=ylc (ci .i64) (ybl data_2 j e_2) (IntKind.i64.wrap (j - (1:Int))) e_3
   try simp only [EV,EVt, *] at this
   refine yav [] yau (ybh _) (ycm (yh ?_))
   refine yy (yho ?_)
   exact ydb [.kill [30],.tidy] (zba h)
  .refine yao (Wp.out (yjp (yhp (yfh (ycm (yh ?_))))))
   exact yad [.kill [7,30]] (zkm (a:=a) (b:=b) zk h)
theorem zkd{b a i:Int}{r:(List Int)}{za:Int->(List Int)->Option (List Int)}(zk:zy a b za r){zl:Int->(List Int)->Option (List Int)}(zba:zcw a b i zl r){j:Int}{data_2:(List Int)}(h:zai za a i zl j data_2=some r):LWp Pg 49 1 yabh ⟨[(0,.own 1 0 0 data_2.length false),(1,.int .i64 a),(2,.int .i64 b),(6,.int .i64 i),(7,.int .i64 j),(12,.bad),(30,.bad)],[],[(0,.arr 1 (List.map (ci .i64) data_2) 0)],1⟩ (yay 2 (yay 1 (ybu Pg 49 1 (.reg none yabi) (ygz Pg 49 1 ysw (yay 0 (ypj r)))))):=by
  unfold zai at h
  refine LWp.stepC yabh.eq_1 ?_
  refine Wp.seq (Wp.seq ?_)
  rcases ifS h with ⟨g2,h⟩ | ⟨g2,h⟩
  .obtain ⟨e,g3,h⟩:=yah h
   obtain ⟨e_1,g4,h⟩:=yah h
   obtain ⟨r0,g5,h⟩:=yah h
   have:=yek (n:=1) (id:=0) (ex:=false) (k:=.i64) g3 rfl
   have:=ygq (c:=(ci .i64)) g3
   have:=yek (n:=1) (id:=0) (ex:=false) (k:=.i64) g4 rfl
   have:=ygq (c:=(ci .i64)) g4
   refine yav [99] yau (ydi 13 (yz (zso g5) (yp _)) (ybh _)) (yh ?_)
   exact yad [.tidy] (zgj (a:=a) (b:=b) zba zk h)
  .refine yav [] yau (ybh _) (yh ?_)
   exact yad [.tidy] (zgj (a:=a) (b:=b) zba zk h)
theorem zko{b a i:Int}{r:(List Int)}{za:Int->(List Int)->Option (List Int)}(zk:zy a b za r):∀ (n:Nat),zcw a b i (zo za a i n) r:=by
  intro n
  induction n with
  | zero=>intro j data_2 h; unfold zo at h; cases h
  | succ n ih=>intro j data_2 h; unfold zo at h; exact zkd (b:=b) zk ih h
theorem zkc{a b:Int}{r:(List Int)} {za:Int->(List Int)->Option (List Int)}(zk:zy a b za r){i:Int}{data_1:(List Int)}(h:zah a b za i data_1=some r):LWp Pg 49 1 ysw ⟨[(0,.own 1 0 0 data_1.length false),(1,.int .i64 a),(2,.int .i64 b),(6,.int .i64 i),(7,.bad),(12,.bad),(30,.bad)],[],[(0,.arr 1 (List.map (ci .i64) data_1) 0)],1⟩ (yay 0 (ypj r)):=by
  unfold zah at h
  refine LWp.stepC ysw.eq_1 ?_
  refine Wp.seq (Wp.seq (yy (yh ?_)))
  rcases ifS h with ⟨g1,h⟩ | ⟨g1,h⟩
  .refine yaq (Wp.skip (yh (Wp.seq (Wp.block (Wp.seq ?_)))))
   refine yy (yh (Wp.block (Wp.loop ?_)))
   exact ydb [.kill [12]] (zko (b:=b) zk _ h)
  .replace h:=ybd h; subst h
   refine yao (Wp.out (yjp (yhp (yfh ?_))))
   exact ydj [.kill [0,1,2,6,12],.tidy]
theorem zkn{a b:Int}{r:(List Int)}:∀ (n:Nat),zy a b (zn a b n) r:=by
  intro n
  induction n with
  | zero=>intro i data_1 h; unfold zn at h; cases h
  | succ n ih=>intro i data_1 h; unfold zn at h; exact zkc ih h
theorem zlm{data:(List Int)}{a:Int}{b:Int}{r:(List Int)} (h:zbi data a b=some r):yap Pg 93 [.own 1 0 0 data.length false,.int .i64 a,.int .i64 b] [(0,.arr 1 (List.map (ci .i64) data) 0)] 1 (.tup []) [(0,.arr 1 (List.map (ci .i64) r) 0)] 1:=by
  refine yap.intro Try.func93 ybpy (yal rfl) ?_
  show Wp Pg 49 1 ybgs ⟨yaz _ ybgt,[],_,_⟩ (ypj r)
  unfold zbi at h
  unfold ybgs
  refine ybc [] ?_
  refine Wp.seq (yy (yh (Wp.block (Wp.loop ?_))))
  exact ydb [.kill [7,12,30]] (zkn _ h)
abbrev yagn(r:(List Int)):Ex->St->Prop:=ycb 1 [] (.tup []) [(0,.arr 1 (List.map (ci .i64) r) 0)] 1
abbrev zih(data:(List Int))(a b limit:Int)(rec0:Option (List Int))(r:(List Int)):Prop:=rec0=some r->LWp Pg 134 1 yajr ⟨[(0,.own 1 0 0 data.length false),(1,.int .i64 a),(2,.int .i64 b),(3,.int .i64 limit),(8,.bool true),(9,.bool true),(10,.bad),(11,.bad),(12,.bad),(13,.bad),(14,.bad),(15,.bad),(16,.bad),(17,.bad),(18,.bad),(23,.bad),(29,.bad),(35,.bad),(50,.bad),(68,.bad),(72,.bad),(87,.bad),(113,.bad)],[],[(0,.arr 1 (List.map (ci .i64) data) 0)],1⟩ (yay 0 (yagn r))
theorem zlx{data:(List Int)}{a b limit:Int}{r:(List Int)} {zej:Option (List Int)}(zrz:zih data a b limit zej r) (h:zcn data a b limit zej=some r):LWp Pg 134 1 yajr ⟨[(0,.own 1 0 0 data.length false),(1,.int .i64 a),(2,.int .i64 b),(3,.int .i64 limit),(8,.bool true),(9,.bool true),(10,.bad),(11,.bad),(12,.bad),(13,.bad),(14,.bad),(15,.bad),(16,.bad),(17,.bad),(18,.bad),(23,.bad),(29,.bad),(35,.bad),(50,.bad),(68,.bad),(72,.bad),(87,.bad),(113,.bad)],[],[(0,.arr 1 (List.map (ci .i64) data) 0)],1⟩ (yay 0 (yagn r)):=by
  unfold zcn at h
  refine LWp.stepC yajr.eq_1 ?_
  refine Wp.block (Wp.seq (yy (yh (Wp.seq (Wp.seq ?_)))))
  refine yy (yh ?_)
  rcases ifS h with ⟨g1,h⟩ | ⟨g1,h⟩
  .refine yaq (Wp.seq (Wp.reg ?_))
   obtain ⟨r0,g2,h⟩:=yah h
   obtain ⟨g3,h⟩:=ygn h
   replace h:=ybd h; subst h
   have:=ki g3
   refine yed (yz (zlm g2) (yp _)) (yh (Wp.ret (yde (yfd (yadm (yfd ?_))))))
   exact ydj [.kill [0,1,2,3,8,9,10,23],.tidy]
  .refine yao (Wp.skip (yh (Wp.seq (Wp.seq ?_))))
   refine yy (yh ?_)
   obtain ⟨g4,h⟩:=reqF h
   refine yao (Wp.skip (yh (Wp.seq (Wp.seq ?_))))
   refine yy (yh ?_)
   refine yao (Wp.skip (yh ?_))
   cases h
theorem zmi{data:(List Int)}{a b limit:Int}{r:(List Int)}:∀ (n:Nat),zih data a b limit (zae data a b limit n) r:=by
  intro n
  induction n with
  | zero=>intro h; unfold zae at h; cases h
  | succ n ih=>intro h; unfold zae at h; exact zlx ih h
theorem zmu{data:(List Int)}{a:Int}{b:Int}{limit:Int}{r:(List Int)} (h:zem data a b limit=some r):yap Pg 91 [.own 1 0 0 data.length false,.int .i64 a,.int .i64 b,.int .i64 limit] [(0,.arr 1 (List.map (ci .i64) data) 0)] 1 (.tup []) [(0,.arr 1 (List.map (ci .i64) r) 0)] 1:=by
  refine yap.intro Try.func91 ybpu (yal rfl) ?_
  show Wp Pg 134 1 ybgo ⟨yaz _ ybgp,[],_,_⟩ (yagn r)
  unfold zem at h
  unfold ybgo
  refine ybc [] ?_
  refine Wp.seq (yy (yh (Wp.seq ?_)))
  refine yy (yh (Wp.block (Wp.loop ?_)))
  exact ydb [.kill [10,11,12,13,14,15,16,17,18,23,29,35,50,68,72,87,113]] (zmi _ h)
abbrev yakh(r:Int):Ex->St->Prop:=ycb 0 [.tmp 2] (.int .i64 r) [] 0
theorem zmc{x0_3 n0_2:Int}{r:Int} (h:zfs x0_3 n0_2=some r):Wp Pg 25 0 (.seq (.reg none yyh) .ret) ⟨[(0,.int .u64 x0_3),(2,.int .i64 n0_2),(4,.bad),(8,.bad),(14,.bad)],[],[],0⟩ (yakh r):=by
  unfold zfs at h
  refine Wp.seq ?_
  obtain ⟨c,g4,h⟩:=yah h
  replace h:=ybd h; subst h
  refine yy (yh (Wp.ret ?_))
  exact yce
theorem zmb{x0_2 n0_1:Int}{r:Int} (h:zfr x0_2 n0_1=some r):Wp Pg 25 0 (.seq (.seq (.reg none yaly) (.cond (.t 14) (.seq (.reg none yalz) (.reg none yama)) .skip)) (.seq (.reg none yyh) .ret)) ⟨[(0,.int .u64 x0_2),(2,.int .i64 n0_1),(4,.bad),(8,.bad),(14,.bad)],[],[],0⟩ (yakh r):=by
  unfold zfr at h
  refine Wp.seq (Wp.seq (yy (yh ?_)))
  rcases ifS h with ⟨g3,h⟩ | ⟨g3,h⟩
  .refine yaq (Wp.seq ?_)
   refine yy (yh ?_)
   refine yy (yh ?_)
   exact yad [.kill [14]] (zmc h)
  .refine yao (Wp.skip (yh ?_))
   exact yad [.kill [14]] (zmc h)
theorem zma{x0_1 n0:Int}{r:Int} (h:zfq x0_1 n0=some r):Wp Pg 25 0 (.seq (.seq (.reg none yayq) (.cond (.t 8) (.seq (.reg none yayr) (.reg none yays)) .skip)) (.seq (.seq (.reg none yaly) (.cond (.t 14) (.seq (.reg none yalz) (.reg none yama)) .skip)) (.seq (.reg none yyh) .ret))) ⟨[(0,.int .u64 x0_1),(2,.int .i64 n0),(4,.bad),(8,.bad),(14,.bad)],[],[],0⟩ (yakh r):=by
  unfold zfq at h
  refine Wp.seq (Wp.seq (yy (yh ?_)))
  rcases ifS h with ⟨g2,h⟩ | ⟨g2,h⟩
  .refine yaq (Wp.seq ?_)
   refine yy (yh ?_)
   refine yy (yh ?_)
   exact yad [.kill [8]] (zmb h)
  .refine yao (Wp.skip (yh ?_))
   exact yad [.kill [8]] (zmb h)
theorem zrb{x0:Int}{r:Int} (h:zjk x0=some r):yap Pg 103 [.int .u64 x0] [] 0 (.int .i64 r) [] 0:=by
  refine yap.intro Try.func103 yayt (yal rfl) ?_
  show Wp Pg 25 0 yask ⟨yaz _ yasl,[],_,_⟩ (yakh r)
  unfold zjk at h
  unfold yask
  refine ybc [] ?_
  refine Wp.seq (yy (yh (Wp.seq (Wp.seq ?_))))
  refine yy (yh ?_)
  rcases ifS h with ⟨g1,h⟩ | ⟨g1,h⟩
  .refine yaq (Wp.seq ?_)
   refine yy (yh ?_)
   refine yy (yh ?_)
   exact yad [.kill [4,8,14]] (zma h)
  .refine yao (Wp.skip (yh ?_))
   exact yad [.kill [4,8,14]] (zma h)
abbrev ydkw(r:Int):Ex->St->Prop:=ycb 0 [.tmp 2] (.int .i64 r) [] 0
theorem zsl{x0:Int}{r:Int} (h:zjf x0=some r):yap Pg 92 [.int .u64 x0] [] 0 (.int .i64 r) [] 0:=by
  refine yap.intro Try.func92 ybpv (yal rfl) ?_
  show Wp Pg 8 0 ybgq ⟨yaz _ ybgr,[],_,_⟩ (ydkw r)
  unfold zjf at h
  unfold ybgq
  refine ybc [] ?_
  refine Wp.seq (yy (yh (Wp.seq ?_)))
  refine yao (Wp.skip (yh (Wp.seq (Wp.reg ?_))))
  obtain ⟨r0,g1,h⟩:=yah h
  replace h:=ybd h; subst h
  refine ybw 2 (yz (zrb g1) (yp _)) ?_
  refine ybo (yp _) (yh (Wp.ret ?_))
  exact yce
abbrev ybzr(r:(List Int)):Ex->St->Prop:=ycb 1 [] (.tup []) [(0,.arr 1 (List.map (ci .i64) r) 0)] 1
theorem zpk{x0:(List Int)}{r:(List Int)} (h:zfl x0=some r):yap Pg 90 [.own 1 0 0 x0.length false] [(0,.arr 1 (List.map (ci .i64) x0) 0)] 1 (.tup []) [(0,.arr 1 (List.map (ci .i64) r) 0)] 1:=by
  refine yap.intro Try.func90 ybpt (yal rfl) ?_
  show Wp Pg 11 1 ybgm ⟨yaz _ ybgn,[],_,_⟩ (ybzr r)
  unfold zfl at h
  unfold ybgm
  refine ybc [] ?_
  refine Wp.seq (yy (yh (Wp.reg ?_)))
  obtain ⟨r0,g1,h⟩:=yah h
  refine ybw 5 (yz (zsl g1) (yp _)) ?_
  obtain ⟨r0_1,g2,h⟩:=yah h
  obtain ⟨g3,h⟩:=ygn h
  replace h:=ybd h; subst h
  have:=ki g3
  refine yed (yz (zmu g2) (yp _)) ?_
  exact ydj [.kill [0,2],.tidy]
abbrev ycdd(r:(Int × Bool)):Ex->St->Prop:=ycb 0 [.tmp 4,.tmp 5] (.tup [.int .i64 r.1,.bool r.2]) [] 0
theorem zmj{l:(List Int)}{n0:Int}{v15:Bool}{r:(Int × Bool)} (h:zgh l n0 v15=some r):Wp Pg 28 0 (.cond (.t 15) (.seq (.reg none ybpl) .ret) .skip) ⟨[(0,sl (ci .i64) l),(1,.int .i64 n0),(4,.bad),(5,.bad),(6,.int .i64 (0:Int)),(7,.bad),(15,.bool v15)],[],[],0⟩ (ybu Pg 28 0 (.seq (.reg none ybpm) (.seq (.reg none ybpn) (.seq (.reg none ybpo) .ret))) (ycdd r)):=by
  unfold zgh at h
  rcases ifS h with ⟨g2,h⟩ | ⟨g2,h⟩
  .replace h:=ybd h; subst h
   refine yaq (Wp.seq ?_)
   refine yy (yh (Wp.ret (yde ?_)))
   exact yce
  .refine yao (Wp.skip (yh (Wp.seq ?_)))
   obtain ⟨g3,h⟩:=ygn h
   refine yy (yh (Wp.seq (Wp.reg ?_)))
   obtain ⟨r0,g4,h⟩:=yah h
   obtain ⟨g5,h⟩:=ygn h
   have:=ki g5
   refine yed (yz (zpk g4) (yp _)) (yh (Wp.seq ?_))
   obtain ⟨e,g6,h⟩:=yah h
   replace h:=ybd h; subst h
   have:=yek (n:=1) (id:=0) (ex:=false) (k:=.i64) g6 rfl
   try simp only [EV,EVt, *] at this
   have:=ygq (c:=(ci .i64)) g6
   refine yy (yh (Wp.ret ?_))
   exact yce
theorem zrx{l:(List Int)}{n0:Int}{r:(Int × Bool)} (h:zka l n0=some r):yap Pg 89 [sl (ci .i64) l,.int .i64 n0] [] 0 (.tup [.int .i64 r.1,.bool r.2]) [] 0:=by
  refine yap.intro Try.func89 ybpp (yal rfl) ?_
  show Wp Pg 28 0 ybgk ⟨yaz _ ybgl,[],_,_⟩ (ycdd r)
  unfold zka at h
  unfold ybgk
  refine ybc [] ?_
  refine Wp.seq (yy (yh (Wp.seq ?_)))
  refine yy (yh (Wp.seq (Wp.seq ?_)))
  rcases ifS h with ⟨g1,h⟩ | ⟨g1,h⟩
  .refine yy (yh ?_)
   exact yad [.kill [4,5,7]] (zmj h)
  .refine yy (yh ?_)
   exact yad [.kill [4,5,7]] (zmj h)
abbrev ydku(r:Int):Ex->St->Prop:=ycb 0 [.tmp 2] (.int .i64 r) [] 0
theorem zlh{l:(List Int)}{r:Int} (h:zdt l=some r):yap Pg 87 [sl (ci .i64) l] [] 0 (.int .i64 r) [] 0:=by
  refine yap.intro Try.func87 ybpj (yal rfl) ?_
  show Wp Pg 14 0 ybgg ⟨yaz _ ybgh,[],_,_⟩ (ydku r)
  unfold zdt at h
  unfold ybgg
  refine ybc [] ?_
  refine Wp.seq (yy (yh (Wp.seq (Wp.reg ?_))))
  obtain ⟨r0,g1,h⟩:=yah h
  refine ybw 4 (yz (zof g1) (yp _)) ?_
  obtain ⟨r0_1,g2,h⟩:=yah h
  replace h:=ybd h; subst h
  refine ybw 1 (yz (zrx g2) (yp _)) ?_
  refine ybo (yp _) (yh (Wp.seq ?_))
  refine yy (yh (Wp.ret ?_))
  exact yce
abbrev yaun(r:yd):Ex->St->Prop:=ycb 6 [] (.tup []) (hs68 r) 6
theorem zib{m:yd}{r0:Int}{v39:Bool}{r:yd} (h:zcj m r0 v39=some r):Wp Pg 45 6 (.cond (.t 39) (.reg none yajm) .skip) ⟨[(0,.ptr 0 0),(2,.int .i64 r0),(3,.bad),(4,.bad),(39,.bool v39)],[],(hs68 m),6⟩ (yaun r):=by
  unfold zcj at h
  rcases ifS h with ⟨g5,h⟩ | ⟨g5,h⟩
  .replace h:=ybd h; subst h
   refine yaq ?_
   refine yy ?_
   exact ydj [.kill [0,2,39],.tidy]
  .replace h:=ybd h; subst h
   refine yao (Wp.skip ?_)
   exact ydj [.kill [0,2,39],.tidy]
theorem zpy{m:yd}{r:yd} (h:zec m=some r):yap Pg 80 [.ptr 0 0] (hs68 m) 6 (.tup []) (hs68 r) 6:=by
  refine yap.intro Try.func80 yajo (yal rfl) ?_
  show Wp Pg 45 6 yyj ⟨yaz _ yajn,[],_,_⟩ (yaun r)
  unfold zec at h
  unfold yyj
  refine ybc [] ?_
  refine Wp.seq (Wp.reg ?_)
  obtain ⟨r0,g1,h⟩:=yah h
  refine ybw 6 (yz (zlh g1) (yp _)) ?_
  refine ybo (yp _) (yh (Wp.seq (Wp.reg ?_)))
  obtain ⟨r0_1,g2,h⟩:=yah h
  refine ybw 7 (yz (zcr g2) (yp _)) ?_
  refine ybo (yp _) (yh (Wp.seq ?_))
  rcases ifS h with ⟨g3,h⟩ | ⟨g3,h⟩
  .rcases ifS h with ⟨g4,h⟩ | ⟨g4,h⟩
   .refine yy (yh ?_)
    exact yad [.kill [3,4]] (zib h)
   .refine yy (yh ?_)
    exact yad [.kill [3,4]] (zib h)
  .refine yy (yh ?_)
   exact yad [.kill [3,4]] (zib h)
abbrev ydks(r:yag):Ex->St->Prop:=ycb 0 [.cell 4 true 3] (.agg [.int .i64 r.yn,.int .i64 r.yv,sl yk.c r.yi]) [] 0
theorem zpq{l:yag}{e:yk}{r:yag} (h:zhf l e=some r):yap Pg 79 [.agg [.int .i64 l.yn,.int .i64 l.yv,sl yk.c l.yi],.agg [.int .i64 e.yc,sl (ci .u8) e.yck]] [] 0 (.agg [.int .i64 r.yn,.int .i64 r.yv,sl yk.c r.yi]) [] 0:=by
  refine yap.intro Try.func79 yboq (yal rfl) ?_
  show Wp Pg 20 0 ybfs ⟨yaz _ ybft,[],_,_⟩ (ydks r)
  unfold zhf at h
  unfold ybfs
  refine ybc [] ?_
  refine Wp.seq (yy (yh (Wp.seq (Wp.reg ?_))))
  obtain ⟨r0,g1,h⟩:=yah h
  refine yjz 2 (yz (zhh g1) (yp _)) ?_
  refine ybo (yp _) (yh (Wp.seq ?_))
  obtain ⟨g2,h⟩:=ygn h
  obtain ⟨g3,h⟩:=ygn h
  replace h:=ybd h; subst h
  refine yav [] yau (ybh _) (yh (Wp.seq ?_))
  refine yy (yh ?_)
  refine ybc [.cell 4 2 .frz] (Wp.ret ?_)
  exact yce
abbrev ybzf(r:yd):Ex->St->Prop:=ycb 7 [] (.tup []) (yus r) 8
theorem zmf{m:yd}{r:yd} (h:zeb m=some r):yap Pg 54 [.ptr 0 0,.nil] (zui m) 7 (.tup []) (yus r) 8:=by
  refine yap.intro Try.func54 yasw (yal rfl) ?_
  show Wp Pg 45 7 yajf ⟨yaz _ yapm,[],_,_⟩ (ybzf r)
  unfold zeb at h
  unfold yajf
  refine ybc [.movc 0 16] ?_
  refine Wp.seq ?_
  obtain ⟨r0,g1,h⟩:=yah h
  refine yav [] yau (ydi 13 (yz (zpq g1) (yp _)) (ybh _)) (yh (Wp.seq ?_))
  obtain ⟨r0_1,g2,h⟩:=yah h
  obtain ⟨e,g3,h⟩:=yah h
  have:=yek (n:=1) (id:=5) (ex:=true) (k:=.i64) g3 rfl
  have:=ygq (c:=(ci .i64)) g3
  have:=ylc (ci .i64) m.yb.yaa (IntKind.i64.wrap (m.yb.Id - (1:Int))) r0_1
  try simp only [EV,EVt, *] at this
  refine yav [] yau (ydi 16 (yz (zbk g2) (yp _)) (ybh _)) (yh (Wp.seq (Wp.reg ?_)))
  obtain ⟨r0_2,g4,h⟩:=yah h
  refine yed (yz (zpy g4) (yp _)) (yh (Wp.reg ?_))
  obtain ⟨r0_3,g5,h⟩:=yah h
  replace h:=ybd h; subst h
  refine yed (yz (zpv g5) (yp _)) ?_
  exact ydj [.kill [0,1],.drop [1],.tidy]
abbrev yze(r:yd):Ex->St->Prop:=ycb 7 [] (.tup []) (zlk r) 11
abbrev zln(r0:yd)(rec0:Int->(List Int)->Option yd)(r:yd):Prop:=∀ {v49:Int} {zb:(List Int)},rec0 v49 zb=some r->LWp Pg 69 7 yut ⟨[(0,.ptr 0 0),(2,.bad),(48,.int .i64 ((r0.yb.N.toNat:Nat):Int)),(49,.int .i64 v49),(50,.bad)],[],(hs91 r0 (3:Int) zb (List.replicate r0.yb.N.toNat (0:Int)) (0:Int)),12⟩ (yay 0 (ybu Pg 69 7 (.reg none yuu) (yze r)))
theorem zpg{r0:yd}{zx:(List Int)}{r:yd} (h:zdc r0 zx=some r):Wp Pg 69 7 (.reg none yuu) ⟨[(0,.ptr 0 0),(2,.bad),(48,.bad),(49,.bad),(50,.bad)],[],(hs91 r0 (3:Int) zx (List.replicate r0.yb.N.toNat (0:Int)) (0:Int)),12⟩ (yze r):=by
  unfold zdc at h
  refine Wp.reg ?_
  obtain ⟨r0_2,g6,h⟩:=yah h
  replace h:=ybd h; subst h
  refine yed (yz (zmf g6) (yp _)) ?_
  exact ydj [.kill [0],.tidy]
theorem zoo{r0:yd}{r:yd} {zfn:Int->(List Int)->Option yd}(zns:zln r0 zfn r){v49:Int}{zb:(List Int)}(h:zcl r0 zfn v49 zb=some r):LWp Pg 69 7 yut ⟨[(0,.ptr 0 0),(2,.bad),(48,.int .i64 ((r0.yb.N.toNat:Nat):Int)),(49,.int .i64 v49),(50,.bad)],[],(hs91 r0 (3:Int) zb (List.replicate r0.yb.N.toNat (0:Int)) (0:Int)),12⟩ (yay 0 (ybu Pg 69 7 (.reg none yuu) (yze r))):=by
  unfold zcl at h
  refine LWp.stepC yut.eq_1 ?_
  refine Wp.seq (yy (yh (Wp.seq ?_)))
  rcases ifS h with ⟨g3,h⟩ | ⟨g3,h⟩
  .refine yaq (Wp.skip (yh (Wp.seq (Wp.block (Wp.seq ?_)))))
   refine yy (yh ?_)
   obtain ⟨r0_1,g4,h⟩:=yah h
   obtain ⟨e,g5,h⟩:=yah h
   have:=yek (n:=1) (id:=9) (ex:=true) (k:=.i64) g5 rfl
   have:=ygq (c:=(ci .i64)) g5
   have:=ylc (ci .i64) zb v49 (IntKind.i64.wrap (r0_1 + (1:Int)))
   try simp only [EV,EVt, *] at this
   refine yav [] yau (ydi 11 (yz (zbk g4) (yp _)) (ybh _)) (ycm (yh ?_))
   refine yy (yho ?_)
   exact ydb [.kill [2,50],.tidy] (zns h)
  .refine yao (Wp.out (yjp (yhp (yfh (yh ?_)))))
   exact yad [.kill [48,49,50]] (zpg h)
theorem zph{r0:yd}{r:yd}:∀ (n:Nat),zln r0 (zw r0 n) r:=by
  intro n
  induction n with
  | zero=>intro v49 zb h; unfold zw at h; cases h
  | succ n ih=>intro v49 zb h; unfold zw at h; exact zoo ih h
theorem zmr{m:yd}{r:yd} (h:zcd m=some r):yap Pg 71 [.ptr 0 0] (hs66 m) 7 (.tup []) (zlk r) 11:=by
  refine yap.intro Try.func71 yath (yal rfl) ?_
  show Wp Pg 69 7 yajl ⟨yaz _ yapq,[],_,_⟩ (yze r)
  unfold zcd at h
  unfold yajl
  refine ybc [.movc 0 11,.movc 0 12,.movc 0 13,.movc 0 16,.movc 0 8] ?_
  refine Wp.seq ?_
  obtain ⟨r0,g1,h⟩:=yah h
  refine yav [66] yau (ydi 11 (yz (zkx g1) (yp _)) (ybh _)) (yh (Wp.seq ?_))
  refine yy (yh (Wp.seq ?_))
  obtain ⟨g2,h⟩:=ygn h
  refine yav [] yau (ybh _) (yh (Wp.seq (Wp.seq ?_)))
  refine yy (yh (Wp.block (Wp.loop ?_)))
  exact ydb [.kill [2,50],.tidy] (zph _ h)
abbrev ybzj(r:yd):Ex->St->Prop:=ycb 7 [] (.tup []) (zlk r) 11
theorem zqn{m:yd}{r:yd} (h:zep m=some r):yap Pg 69 [.ptr 0 0] (hs66 m) 7 (.tup []) (zlk r) 11:=by
  refine yap.intro Try.func69 yatf (yal rfl) ?_
  show Wp Pg 49 7 yajk ⟨yaz _ yapp,[],_,_⟩ (ybzj r)
  unfold zep at h
  unfold yajk
  refine ybc [.movc 0 11,.movc 0 12,.movc 0 13,.movc 0 16,.movc 0 8] ?_
  refine Wp.seq (yy (yh (Wp.seq ?_)))
  obtain ⟨r0,g1,h⟩:=yah h
  refine yav [66] yau (ydi 7 (yz (zkx g1) (yp _)) (ybh _)) (yh (Wp.seq ?_))
  refine yav [] yau (ybh _) (yh (Wp.seq ?_))
  obtain ⟨g2,h⟩:=ygn h
  refine yav [] yau (ybh _) (yh (Wp.seq (Wp.seq ?_)))
  obtain ⟨r0_1,g3,h⟩:=yah h
  refine yav [68] yau (ydi 6 (yz (zjy g3) (yp _)) (ybh _)) (yh ?_)
  rcases ifS h with ⟨g4,h⟩ | ⟨g4,h⟩
  .refine yaq (Wp.seq (Wp.reg ?_))
   obtain ⟨r0_2,g5,h⟩:=yah h
   replace h:=ybd h; subst h
   refine yed (yz (zmr g5) (yp _)) (yh (Wp.ret (yde ?_)))
   exact ydj [.kill [0,1,43],.tidy]
  .refine yao (Wp.skip (yh (Wp.reg ?_)))
   obtain ⟨r0_3,g6,h⟩:=yah h
   replace h:=ybd h; subst h
   refine yed (yz (zme g6) (yp _)) ?_
   exact ydj [.cell 0 8 .frz,.kill [0,1,43],.tidy]
abbrev ydkr(r:Int):Ex->St->Prop:=ycb 0 [.tmp 2] (.int .i64 r) [] 0
theorem ztt{draw:Int}{r:Int} (h:zlz draw=some r):yap Pg 77 [.int .i64 draw] [] 0 (.int .i64 r) [] 0:=by
  refine yap.intro Try.func77 yboo (yal rfl) ?_
  show Wp Pg 8 0 ybfo ⟨yaz _ ybfp,[],_,_⟩ (ydkr r)
  unfold zlz at h
  unfold ybfo
  refine ybc [] ?_
  replace h:=ybd h; subst h
  refine Wp.seq (yy (yh (Wp.seq ?_)))
  refine yy (yh (Wp.ret ?_))
  exact yce
abbrev ybzc(r:yd):Ex->St->Prop:=ycb 7 [] (.tup []) (zlk r) 11
theorem zre{draw:Int}{m:yd}{r:yd} (h:zfz draw m=some r):yap Pg 52 [.ptr 0 0,.int .i64 draw] (yjw m) 7 (.tup []) (zlk r) 11:=by
  refine yap.intro Try.func52 ybnm (yal rfl) ?_
  show Wp Pg 47 7 ybes ⟨yaz _ ybet,[],_,_⟩ (ybzc r)
  unfold zfz at h
  unfold ybes
  refine ybc [.movc 0 11,.movc 0 12,.movc 0 13,.movc 0 16,.movc 0 8] ?_
  refine Wp.seq (yy (yh (Wp.seq ?_)))
  obtain ⟨r0,g1,h⟩:=yah h
  refine yav [66] yau (ydi 6 (yz (zex g1) (yp _)) (ybh _)) (yh (Wp.seq ?_))
  obtain ⟨r0_1,g2,h⟩:=yah h
  refine yav [] yau (ydi 4 (yz (ztt g2) (yp _)) (ybh _)) (yh (Wp.seq ?_))
  obtain ⟨g3,h⟩:=ygn h
  refine yav [] yau (ybh _) (yh (Wp.seq (Wp.seq ?_)))
  obtain ⟨r0_2,g4,h⟩:=yah h
  refine yav [68] yau (ydi 6 (yz (zjy g4) (yp _)) (ybh _)) (yh ?_)
  rcases ifS h with ⟨g5,h⟩ | ⟨g5,h⟩
  .refine yaq (Wp.seq (Wp.reg ?_))
   obtain ⟨r0_3,g6,h⟩:=yah h
   replace h:=ybd h; subst h
   refine yed (yz (zqn g6) (yp _)) (yh (Wp.ret (yde ?_)))
   exact ydj [.kill [0,1,2,41],.tidy]
  .refine yao (Wp.skip (yh (Wp.reg ?_)))
   obtain ⟨r0_4,g7,h⟩:=yah h
   replace h:=ybd h; subst h
   refine yed (yz (zpw g7) (yp _)) ?_
   exact ydj [.cell 0 8 .frz,.kill [0,1,2,41],.tidy]
abbrev ybzd(m:yd)(r:(ye × (List yj))):Ex->St->Prop:=ycb 6 [.cell 2 true 16,.tmp 3] (.tup [.agg [.int .i64 r.1.Id,.int .i64 r.1.N,.int .i64 r.1.yc,.int .i64 r.1.yan,.int .i64 r.1.ym,.int .i64 r.1.yak,.int .i64 r.1.yg.yn,.int .i64 r.1.yg.yv,sl yk.c r.1.yg.yi,.int .i64 r.1.yl,.own 1 1 0 ((r.1.yaf).length) false,.own 1 2 0 ((r.1.yq).length) false,.own 1 3 0 ((r.1.Next).length) false,.own 1 4 0 ((r.1.yaa).length) false,.int .i64 r.1.yu,.int .i64 r.1.yam],.own 11 5 0 ((r.2).length) false]) [(0,.box [.int .i64 m.yb.Id,.int .i64 m.yb.N,.int .i64 m.yb.yc,.int .i64 m.yb.yan,.int .i64 m.yb.ym,.int .i64 m.yb.yak,.int .i64 m.yb.yg.yn,.int .i64 m.yb.yg.yv,sl yk.c m.yb.yg.yi,.int .i64 m.yb.yl,.own 1 1 0 ((m.yb.yaf).length) false,.own 1 2 0 ((m.yb.yq).length) false,.own 1 3 0 ((m.yb.Next).length) false,.own 1 4 0 ((m.yb.yaa).length) false,.int .i64 m.yb.yu,.int .i64 m.yb.yam,.own 11 5 0 ((m.f_out).length) false]),(1,.arr 1 (List.map (ci .u8) r.1.yaf) 0),(2,.arr 1 (List.map cb r.1.yq) 0),(3,.arr 1 (List.map (ci .i64) r.1.Next) 0),(4,.arr 1 (List.map (ci .i64) r.1.yaa) 0),(5,.arr 11 (List.map yj.c r.2) 0)] 6
theorem zkb{m:yd}{r:(ye × (List yj))} (h:zgx m=some r):yap Pg 53 [.ptr 0 0] (zog m) 6 (.tup [.agg [.int .i64 r.1.Id,.int .i64 r.1.N,.int .i64 r.1.yc,.int .i64 r.1.yan,.int .i64 r.1.ym,.int .i64 r.1.yak,.int .i64 r.1.yg.yn,.int .i64 r.1.yg.yv,sl yk.c r.1.yg.yi,.int .i64 r.1.yl,.own 1 1 0 ((r.1.yaf).length) false,.own 1 2 0 ((r.1.yq).length) false,.own 1 3 0 ((r.1.Next).length) false,.own 1 4 0 ((r.1.yaa).length) false,.int .i64 r.1.yu,.int .i64 r.1.yam],.own 11 5 0 ((r.2).length) false]) [(0,.box [.int .i64 m.yb.Id,.int .i64 m.yb.N,.int .i64 m.yb.yc,.int .i64 m.yb.yan,.int .i64 m.yb.ym,.int .i64 m.yb.yak,.int .i64 m.yb.yg.yn,.int .i64 m.yb.yg.yv,sl yk.c m.yb.yg.yi,.int .i64 m.yb.yl,.own 1 1 0 ((m.yb.yaf).length) false,.own 1 2 0 ((m.yb.yq).length) false,.own 1 3 0 ((m.yb.Next).length) false,.own 1 4 0 ((m.yb.yaa).length) false,.int .i64 m.yb.yu,.int .i64 m.yb.yam,.own 11 5 0 ((m.f_out).length) false]),(1,.arr 1 (List.map (ci .u8) r.1.yaf) 0),(2,.arr 1 (List.map cb r.1.yq) 0),(3,.arr 1 (List.map (ci .i64) r.1.Next) 0),(4,.arr 1 (List.map (ci .i64) r.1.yaa) 0),(5,.arr 11 (List.map yj.c r.2) 0)] 6:=by
  refine yap.intro Try.func53 yasv (yal rfl) ?_
  show Wp Pg 12 6 yaje ⟨yaz _ yapl,[],_,_⟩ (ybzd m r)
  unfold zgx at h
  unfold yaje
  refine ybc [] ?_
  replace h:=ybd h; subst h
  refine Wp.seq (yy (yh (Wp.seq ?_)))
  refine yav [] yau (ybh _) (yh (Wp.ret ?_))
  exact ydj [.kill [0],.tidy]
abbrev ybze(m:yd)(r:(ye × (List yj))):Ex->St->Prop:=ycb 7 [.cell 2 true 16,.tmp 3] (.tup [.agg [.int .i64 r.1.Id,.int .i64 r.1.N,.int .i64 r.1.yc,.int .i64 r.1.yan,.int .i64 r.1.ym,.int .i64 r.1.yak,.int .i64 r.1.yg.yn,.int .i64 r.1.yg.yv,.own 2 1 0 ((r.1.yg.yi).length) false,.int .i64 r.1.yl,.own 1 2 0 ((r.1.yaf).length) false,.own 1 3 0 ((r.1.yq).length) false,.own 1 4 0 ((r.1.Next).length) false,.own 1 5 0 ((r.1.yaa).length) false,.int .i64 r.1.yu,.int .i64 r.1.yam],.own 11 6 0 ((r.2).length) false]) [(0,.box [.int .i64 m.yb.Id,.int .i64 m.yb.N,.int .i64 m.yb.yc,.int .i64 m.yb.yan,.int .i64 m.yb.ym,.int .i64 m.yb.yak,.int .i64 m.yb.yg.yn,.int .i64 m.yb.yg.yv,.own 2 1 0 ((m.yb.yg.yi).length) false,.int .i64 m.yb.yl,.own 1 2 0 ((m.yb.yaf).length) false,.own 1 3 0 ((m.yb.yq).length) false,.own 1 4 0 ((m.yb.Next).length) false,.own 1 5 0 ((m.yb.yaa).length) false,.int .i64 m.yb.yu,.int .i64 m.yb.yam,.own 11 6 0 ((m.f_out).length) false]),(1,.arr 2 (List.map yk.c r.1.yg.yi) 0),(2,.arr 1 (List.map (ci .u8) r.1.yaf) 0),(3,.arr 1 (List.map cb r.1.yq) 0),(4,.arr 1 (List.map (ci .i64) r.1.Next) 0),(5,.arr 1 (List.map (ci .i64) r.1.yaa) 0),(6,.arr 11 (List.map yj.c r.2) 0)] 7
theorem zpe{m:yd}{r:(ye × (List yj))} (h:zjw m=some r):yap Pg 53 [.ptr 0 0] (yjw m) 7 (.tup [.agg [.int .i64 r.1.Id,.int .i64 r.1.N,.int .i64 r.1.yc,.int .i64 r.1.yan,.int .i64 r.1.ym,.int .i64 r.1.yak,.int .i64 r.1.yg.yn,.int .i64 r.1.yg.yv,.own 2 1 0 ((r.1.yg.yi).length) false,.int .i64 r.1.yl,.own 1 2 0 ((r.1.yaf).length) false,.own 1 3 0 ((r.1.yq).length) false,.own 1 4 0 ((r.1.Next).length) false,.own 1 5 0 ((r.1.yaa).length) false,.int .i64 r.1.yu,.int .i64 r.1.yam],.own 11 6 0 ((r.2).length) false]) [(0,.box [.int .i64 m.yb.Id,.int .i64 m.yb.N,.int .i64 m.yb.yc,.int .i64 m.yb.yan,.int .i64 m.yb.ym,.int .i64 m.yb.yak,.int .i64 m.yb.yg.yn,.int .i64 m.yb.yg.yv,.own 2 1 0 ((m.yb.yg.yi).length) false,.int .i64 m.yb.yl,.own 1 2 0 ((m.yb.yaf).length) false,.own 1 3 0 ((m.yb.yq).length) false,.own 1 4 0 ((m.yb.Next).length) false,.own 1 5 0 ((m.yb.yaa).length) false,.int .i64 m.yb.yu,.int .i64 m.yb.yam,.own 11 6 0 ((m.f_out).length) false]),(1,.arr 2 (List.map yk.c r.1.yg.yi) 0),(2,.arr 1 (List.map (ci .u8) r.1.yaf) 0),(3,.arr 1 (List.map cb r.1.yq) 0),(4,.arr 1 (List.map (ci .i64) r.1.Next) 0),(5,.arr 1 (List.map (ci .i64) r.1.yaa) 0),(6,.arr 11 (List.map yj.c r.2) 0)] 7:=by
  refine yap.intro Try.func53 yasv (yal rfl) ?_
  show Wp Pg 12 7 yaje ⟨yaz _ yapl,[],_,_⟩ (ybze m r)
  unfold zjw at h
  unfold yaje
  refine ybc [] ?_
  replace h:=ybd h; subst h
  refine Wp.seq (yy (yh (Wp.seq ?_)))
  refine yav [] yau (ybh _) (yh (Wp.ret ?_))
  exact ydj [.kill [0],.tidy]
abbrev yauo(r:yd):Ex->St->Prop:=ycb 6 [] (.tup []) (zog r) 6
theorem zgm{m:yd}{r0:Int}{v39:Bool}{r:yd} (h:zcp m r0 v39=some r):Wp Pg 45 6 (.cond (.t 39) (.reg none yajm) .skip) ⟨[(0,.ptr 0 0),(2,.int .i64 r0),(3,.bad),(4,.bad),(39,.bool v39)],[],(zog m),6⟩ (yauo r):=by
  unfold zcp at h
  rcases ifS h with ⟨g5,h⟩ | ⟨g5,h⟩
  .replace h:=ybd h; subst h
   refine yaq ?_
   refine yy ?_
   exact ydj [.kill [0,2,39],.tidy]
  .replace h:=ybd h; subst h
   refine yao (Wp.skip ?_)
   exact ydj [.kill [0,2,39],.tidy]
theorem zom{m:yd}{r:yd} (h:zee m=some r):yap Pg 80 [.ptr 0 0] (zog m) 6 (.tup []) (zog r) 6:=by
  refine yap.intro Try.func80 yajo (yal rfl) ?_
  show Wp Pg 45 6 yyj ⟨yaz _ yajn,[],_,_⟩ (yauo r)
  unfold zee at h
  unfold yyj
  refine ybc [] ?_
  refine Wp.seq (Wp.reg ?_)
  obtain ⟨r0,g1,h⟩:=yah h
  refine ybw 6 (yz (zlh g1) (yp _)) ?_
  refine ybo (yp _) (yh (Wp.seq (Wp.reg ?_)))
  obtain ⟨r0_1,g2,h⟩:=yah h
  refine ybw 7 (yz (zcr g2) (yp _)) ?_
  refine ybo (yp _) (yh (Wp.seq ?_))
  rcases ifS h with ⟨g3,h⟩ | ⟨g3,h⟩
  .rcases ifS h with ⟨g4,h⟩ | ⟨g4,h⟩
   .refine yy (yh ?_)
    exact yad [.kill [3,4]] (zgm h)
   .refine yy (yh ?_)
    exact yad [.kill [3,4]] (zgm h)
  .refine yy (yh ?_)
   exact yad [.kill [3,4]] (zgm h)
abbrev ybzg(r:yd):Ex->St->Prop:=ycb 7 [] (.tup []) (yus r) 8
theorem zol{data:(List Int)}{m:yd}{r:yd} (h:zgg data m=some r):yap Pg 54 [.ptr 0 0,sl (ci .u8) data] (yjw m) 7 (.tup []) (yus r) 8:=by
  refine yap.intro Try.func54 yasw (yal rfl) ?_
  show Wp Pg 45 7 yajf ⟨yaz _ yapm,[],_,_⟩ (ybzg r)
  unfold zgg at h
  unfold yajf
  refine ybc [.movc 0 16] ?_
  refine Wp.seq ?_
  obtain ⟨r0,g1,h⟩:=yah h
  refine yav [] yau (ydi 13 (yz (zpq g1) (yp _)) (ybh _)) (yh (Wp.seq ?_))
  obtain ⟨r0_1,g2,h⟩:=yah h
  obtain ⟨e,g3,h⟩:=yah h
  have:=yek (n:=1) (id:=5) (ex:=false) (k:=.i64) g3 rfl
  have:=ygq (c:=(ci .i64)) g3
  have:=ylc (ci .i64) m.yb.yaa (IntKind.i64.wrap (m.yb.Id - (1:Int))) r0_1
  try simp only [EV,EVt, *] at this
  refine yav [] yau (ydi 16 (yz (zbk g2) (yp _)) (ybh _)) (yh (Wp.seq (Wp.reg ?_)))
  obtain ⟨r0_2,g4,h⟩:=yah h
  refine yed (yz (zom g4) (yp _)) (yh (Wp.reg ?_))
  obtain ⟨r0_3,g5,h⟩:=yah h
  replace h:=ybd h; subst h
  refine yed (yz (zpx g5) (yp _)) ?_
  exact ydj [.kill [0,1],.drop [1],.tidy]
abbrev ybzn(r:yd):Ex->St->Prop:=ycb 7 [] (.tup []) (zqo r) 8
theorem ziv{to0:Int}{x0:yj}{m:yd}{r:yd} (h:zcc to0 x0 m=some r):yap Pg 76 [.ptr 0 0,.int .i64 to0,.agg [.int .i64 x0.yae,.int .i64 x0.yhn,.int .i64 x0.From,.int .i64 x0.To,.int .i64 x0.yc,.int .i64 x0.At,.int .i64 x0.ybf,.int .i64 x0.yl,.bool x0.Ok,.nil,.nil]] (yjw m) 7 (.tup []) (zqo r) 8:=by
  refine yap.intro Try.func76 yabg (yal rfl) ?_
  show Wp Pg 24 7 ytp ⟨yaz _ yadk,[],_,_⟩ (ybzn r)
  unfold zcc at h
  unfold ytp
  refine ybc [.movc 0 16] ?_
  refine Wp.seq (yy (yh (Wp.seq ?_)))
  refine yy (yh ?_)
  obtain ⟨g1,h⟩:=ygn h
  replace h:=ybd h; subst h
  refine yav [] yau (ybh _) ?_
  exact ydj [.kill [0,1,2,5],.tidy]
abbrev ydkt(r:Bool):Ex->St->Prop:=ycb 0 [.tmp 6] (.bool r) [] 0
theorem zmy{l:yag}{term:Int}{at0:Int}{r:Bool} (h:zim l term at0=some r):yap Pg 81 [.agg [.int .i64 l.yn,.int .i64 l.yv,sl yk.c l.yi],.int .i64 term,.int .i64 at0] [] 0 (.bool r) [] 0:=by
  refine yap.intro Try.func81 ybor (yal rfl) ?_
  show Wp Pg 24 0 ybfu ⟨yaz _ ybfv,[],_,_⟩ (ydkt r)
  unfold zim at h
  unfold ybfu
  refine ybc [] ?_
  refine Wp.seq (yy (yh (Wp.seq (Wp.reg ?_))))
  obtain ⟨r0,g1,h⟩:=yah h
  refine ybw 2 (yz (zjm g1) (yp _)) ?_
  refine ybo (yp _) (yh (Wp.seq (Wp.reg ?_)))
  rcases ifS h with ⟨g2,h⟩ | ⟨g2,h⟩
  .replace h:=ybd h; subst h
   refine ybo (yp _) (yh (Wp.ret ?_))
   exact yce
  .rcases ifS h with ⟨g3,h⟩ | ⟨g3,h⟩
   .obtain ⟨r0_1,g4,h⟩:=yah h
    replace h:=ybd h; subst h
    refine ybw 11 (yz (zbk g4) (yp _)) ?_
    refine ybo (yp _) (yh (Wp.ret ?_))
    exact yce
   .replace h:=ybd h; subst h
    refine ybo (yp _) (yh (Wp.ret ?_))
    exact yce
abbrev yzd(r:yd):Ex->St->Prop:=ycb 7 [] (.tup []) (zqo r) 8
theorem zli{x0:yj}{m:yd}{ok_1:Bool}{term:Int}{r:yd} (h:zct x0 m ok_1 term=some r):Wp Pg 67 7 (.reg none yaji) ⟨[(0,.ptr 0 0),(1,.bad),(3,.ptr 8 0),(4,.bad),(5,.bool ok_1),(6,.int .i64 term),(57,.bad)],[],(zst m x0),9⟩ (yzd r):=by
  unfold zct at h
  refine Wp.reg ?_
  obtain ⟨r0_1,g7,h⟩:=yah h
  replace h:=ybd h; subst h
  refine yed (yz (ziv g7) (yp _)) ?_
  exact ydj [.kill [0,3,5,6],.tidy]
theorem ziq{x0:yj}{m:yd}{ok:Bool}{r:yd} (h:zbz x0 m ok=some r):Wp Pg 67 7 (.seq (.reg none yatb) (.seq (.seq (.reg none yatc) (.cond (.t 57) (.reg none yatd) .skip)) (.reg none yaji))) ⟨[(0,.ptr 0 0),(1,.bad),(3,.ptr 8 0),(4,.bad),(5,.bool ok),(6,.bad),(57,.bad)],[],(zst m x0),9⟩ (yzd r):=by
  unfold zbz at h
  refine Wp.seq (yy (yh (Wp.seq (Wp.seq ?_))))
  refine yy (yh ?_)
  rcases ifS h with ⟨g6,h⟩ | ⟨g6,h⟩
  .refine yaq ?_
   refine yy (yh ?_)
   exact yad [.kill [57]] (zli h)
  .refine yao (Wp.skip (yh ?_))
   exact yad [.kill [57]] (zli h)
theorem zip{x0:yj}{m:yd}{free:Bool}{r:yd} (h:zby x0 m free=some r):Wp Pg 67 7 (.seq (.reg (some []) ybnt) (.seq (.reg none yatb) (.seq (.seq (.reg none yatc) (.cond (.t 57) (.reg none yatd) .skip)) (.reg none yaji)))) ⟨[(0,.ptr 0 0),(1,.bad),(3,.ptr 8 0),(4,.bool free),(5,.bad),(6,.bad),(57,.bad)],[],(zst m x0),9⟩ (yzd r):=by
  unfold zby at h
  refine Wp.seq ?_
  rcases ifS h with ⟨g3,h⟩ | ⟨g3,h⟩
  .rcases ifS h with ⟨g4,h⟩ | ⟨g4,h⟩
   .obtain ⟨r0,g5,h⟩:=yah h
    refine yav [] yau (ydi 21 (yz (zmy g5) (yp _)) (ybh _)) (yh ?_)
    exact yad [.kill [4],.tidy] (ziq h)
   .refine yav [] yau (ybh _) (yh ?_)
    exact yad [.kill [4],.tidy] (ziq h)
  .refine yav [] yau (ybh _) (yh ?_)
   exact yad [.kill [4],.tidy] (ziq h)
theorem zqm{x0:yj}{m:yd}{r:yd} (h:zeo x0 m=some r):yap Pg 67 [.ptr 0 0,.agg [.int .i64 x0.yae,.int .i64 x0.yhn,.int .i64 x0.From,.int .i64 x0.To,.int .i64 x0.yc,.int .i64 x0.At,.int .i64 x0.ybf,.int .i64 x0.yl,.bool x0.Ok,sl yk.c x0.yi,sl (ci .u8) x0.yck]] (yjw m) 7 (.tup []) (zqo r) 8:=by
  refine yap.intro Try.func67 ybnu (yal rfl) ?_
  show Wp Pg 67 7 ybfc ⟨yaz _ ybfd,[],_,_⟩ (yzd r)
  unfold zeo at h
  unfold ybfc
  refine ybc [.movc 0 16] ?_
  refine Wp.seq (yy (yh (Wp.seq ?_)))
  rcases ifS h with ⟨g1,h⟩ | ⟨g1,h⟩
  .rcases ifS h with ⟨g2,h⟩ | ⟨g2,h⟩
   .refine yy (yh ?_)
    exact yad [.kill [1,5,6,57],.tidy] (zip h)
   .refine yy (yh ?_)
    exact yad [.kill [1,5,6,57],.tidy] (zip h)
  .refine yy (yh ?_)
   exact yad [.kill [1,5,6,57],.tidy] (zip h)
abbrev ybzi(r:(Bool × yd)):Ex->St->Prop:=ycb 7 [.tmp 4] (.bool r.1) (yjw r.2) 7
theorem zlj{who:Int}{m:yd}{r:(Bool × yd)} (h:zca who m=some r):yap Pg 68 [.ptr 0 0,.int .i64 who] (yjw m) 7 (.bool r.1) (yjw r.2) 7:=by
  refine yap.intro Try.func68 yate (yal rfl) ?_
  show Wp Pg 19 7 yajj ⟨yaz _ yapo,[],_,_⟩ (ybzi r)
  unfold zca at h
  unfold yajj
  refine ybc [] ?_
  refine Wp.seq (yy (yh (Wp.seq ?_)))
  obtain ⟨e,g1,h⟩:=yah h
  have:=yek (n:=1) (id:=3) (ex:=false) (k:=.i64) g1 rfl
  have:=ygq (c:=cb) g1
  have:=ylc cb m.yb.yq (IntKind.i64.wrap (who - (1:Int))) true
  try simp only [EV,EVt, *] at this
  refine yy (yh (Wp.seq (Wp.reg ?_)))
  obtain ⟨r0,g2,h⟩:=yah h
  replace h:=ybd h; subst h
  refine ybw 6 (yz (zqk g2) (yp _)) ?_
  refine ybo (yp _) (yh (Wp.ret ?_))
  exact ydj [.kill [0,1],.tidy]
abbrev ybzk(r:yd):Ex->St->Prop:=ycb 7 [] (.tup []) (zlk r) 11
theorem zpd{m:yd}{r:yd} (h:zev m=some r):yap Pg 69 [.ptr 0 0] (yjw m) 7 (.tup []) (zlk r) 11:=by
  refine yap.intro Try.func69 yatf (yal rfl) ?_
  show Wp Pg 49 7 yajk ⟨yaz _ yapp,[],_,_⟩ (ybzk r)
  unfold zev at h
  unfold yajk
  refine ybc [.movc 0 11,.movc 0 12,.movc 0 13,.movc 0 16,.movc 0 8] ?_
  refine Wp.seq (yy (yh (Wp.seq ?_)))
  obtain ⟨r0,g1,h⟩:=yah h
  refine yav [66] yau (ydi 7 (yz (zex g1) (yp _)) (ybh _)) (yh (Wp.seq ?_))
  refine yav [] yau (ybh _) (yh (Wp.seq ?_))
  obtain ⟨g2,h⟩:=ygn h
  refine yav [] yau (ybh _) (yh (Wp.seq (Wp.seq ?_)))
  obtain ⟨r0_1,g3,h⟩:=yah h
  refine yav [68] yau (ydi 6 (yz (zjy g3) (yp _)) (ybh _)) (yh ?_)
  rcases ifS h with ⟨g4,h⟩ | ⟨g4,h⟩
  .refine yaq (Wp.seq (Wp.reg ?_))
   obtain ⟨r0_2,g5,h⟩:=yah h
   replace h:=ybd h; subst h
   refine yed (yz (zmr g5) (yp _)) (yh (Wp.ret (yde ?_)))
   exact ydj [.kill [0,1,43],.tidy]
  .refine yao (Wp.skip (yh (Wp.reg ?_)))
   obtain ⟨r0_3,g6,h⟩:=yah h
   replace h:=ybd h; subst h
   refine yed (yz (zme g6) (yp _)) ?_
   exact ydj [.cell 0 8 .frz,.kill [0,1,43],.tidy]
abbrev yagl(r:yd):Ex->St->Prop:=ycb 7 [] (.tup []) (zqo r) 8
theorem zlv{x0:yj}{m:yd}{ok_1:Bool}{m_30 ze:Int}{r:yd} (h:zfk x0 m ok_1 m_30 ze=some r):Wp Pg 73 7 (.reg (some []) yatg) ⟨[(0,.ptr 0 0),(1,.bad),(3,.ptr 8 0),(4,.bool ok_1),(51,.bad)],[],(zuj m x0 m_30 ze),9⟩ (yagl r):=by
  unfold zfk at h
  obtain ⟨r0_2,g8,h⟩:=yah h
  replace h:=ybd h; subst h
  refine yav [76] yau (ydi 10 (yz (ziv g8) (yp _)) (ybh _)) ?_
  exact ydj [.kill [0,3,4],.tidy]
theorem zeh{x0:yj}{m:yd}{ok:Bool}{r:yd} (h:zag x0 m ok=some r):Wp Pg 73 7 (.seq (.seq (.reg none ybnv) (.cond (.t 51) (.reg none ybnw) .skip)) (.reg (some []) yatg)) ⟨[(0,.ptr 0 0),(1,.bad),(3,.ptr 8 0),(4,.bool ok),(51,.bad)],[],(zst m x0),9⟩ (yagl r):=by
  unfold zag at h
  refine Wp.seq (Wp.seq (yy (yh ?_)))
  rcases ifS h with ⟨g7,h⟩ | ⟨g7,h⟩
  .refine yaq ?_
   refine yy (yh ?_)
   exact yad [.kill [51]] (zlv h)
  .refine yao (Wp.skip (yh ?_))
   exact yad [.kill [51]] (zlv h)
theorem zqy{x0:yj}{m:yd}{r:yd} (h:zfj x0 m=some r):yap Pg 70 [.ptr 0 0,.agg [.int .i64 x0.yae,.int .i64 x0.yhn,.int .i64 x0.From,.int .i64 x0.To,.int .i64 x0.yc,.int .i64 x0.At,.int .i64 x0.ybf,.int .i64 x0.yl,.bool x0.Ok,sl yk.c x0.yi,sl (ci .u8) x0.yck]] (yjw m) 7 (.tup []) (zqo r) 8:=by
  refine yap.intro Try.func70 ybnx (yal rfl) ?_
  show Wp Pg 73 7 ybfe ⟨yaz _ ybff,[],_,_⟩ (yagl r)
  unfold zfj at h
  unfold ybfe
  refine ybc [.movc 0 16] ?_
  refine Wp.seq (yy (yh (Wp.seq ?_)))
  rcases ifS h with ⟨g1,h⟩ | ⟨g1,h⟩
  .rcases ifS h with ⟨g2,h⟩ | ⟨g2,h⟩
   .rcases ifS h with ⟨g3,h⟩ | ⟨g3,h⟩
    .obtain ⟨r0,g4,h⟩:=yah h
     refine yav [] yau (ydi 44 (yz (zmy g4) (yp _)) (ybh _)) (yh ?_)
     exact yad [.kill [1,51],.tidy] (zeh h)
    .rcases ifS h with ⟨g5,h⟩ | ⟨g5,h⟩
     .obtain ⟨r0_1,g6,h⟩:=yah h
      refine yav [] yau (ydi 44 (yz (zmy g6) (yp _)) (ybh _)) (yh ?_)
      exact yad [.kill [1,51],.tidy] (zeh h)
     .refine yav [] yau (ybh _) (yh ?_)
      exact yad [.kill [1,51],.tidy] (zeh h)
   .refine yav [] yau (ybh _) (yh ?_)
    exact yad [.kill [1,51],.tidy] (zeh h)
  .refine yav [] yau (ybh _) (yh ?_)
   exact yad [.kill [1,51],.tidy] (zeh h)
abbrev yzf(r:yd):Ex->St->Prop:=ycb 7 [] (.tup []) (zlk r) 11
abbrev zke(r0:yd)(rec0:Int->(List Int)->Option yd)(r:yd):Prop:=∀ {v49:Int} {zb:(List Int)},rec0 v49 zb=some r->LWp Pg 69 7 yut ⟨[(0,.ptr 0 0),(2,.bad),(48,.int .i64 ((r0.yb.N.toNat:Nat):Int)),(49,.int .i64 v49),(50,.bad)],[],(hs91 r0 (3:Int) zb (List.replicate r0.yb.N.toNat (0:Int)) (0:Int)),12⟩ (yay 0 (ybu Pg 69 7 (.reg none yuu) (yzf r)))
theorem zny{r0:yd}{zx:(List Int)}{r:yd} (h:zin r0 zx=some r):Wp Pg 69 7 (.reg none yuu) ⟨[(0,.ptr 0 0),(2,.bad),(48,.bad),(49,.bad),(50,.bad)],[],(hs91 r0 (3:Int) zx (List.replicate r0.yb.N.toNat (0:Int)) (0:Int)),12⟩ (yzf r):=by
  unfold zin at h
  refine Wp.reg ?_
  obtain ⟨r0_2,g6,h⟩:=yah h
  replace h:=ybd h; subst h
  refine yed (yz (zmf g6) (yp _)) ?_
  exact ydj [.kill [0],.tidy]
theorem zmz{r0:yd}{r:yd} {zed:Int->(List Int)->Option yd}(zmt:zke r0 zed r){v49:Int}{zb:(List Int)}(h:zfa r0 zed v49 zb=some r):LWp Pg 69 7 yut ⟨[(0,.ptr 0 0),(2,.bad),(48,.int .i64 ((r0.yb.N.toNat:Nat):Int)),(49,.int .i64 v49),(50,.bad)],[],(hs91 r0 (3:Int) zb (List.replicate r0.yb.N.toNat (0:Int)) (0:Int)),12⟩ (yay 0 (ybu Pg 69 7 (.reg none yuu) (yzf r))):=by
  unfold zfa at h
  refine LWp.stepC yut.eq_1 ?_
  refine Wp.seq (yy (yh (Wp.seq ?_)))
  rcases ifS h with ⟨g3,h⟩ | ⟨g3,h⟩
  .refine yaq (Wp.skip (yh (Wp.seq (Wp.block (Wp.seq ?_)))))
   refine yy (yh ?_)
   obtain ⟨r0_1,g4,h⟩:=yah h
   obtain ⟨e,g5,h⟩:=yah h
   have:=yek (n:=1) (id:=9) (ex:=true) (k:=.i64) g5 rfl
   have:=ygq (c:=(ci .i64)) g5
   have:=ylc (ci .i64) zb v49 (IntKind.i64.wrap (r0_1 + (1:Int)))
   try simp only [EV,EVt, *] at this
   refine yav [] yau (ydi 11 (yz (zbk g4) (yp _)) (ybh _)) (ycm (yh ?_))
   refine yy (yho ?_)
   exact ydb [.kill [2,50],.tidy] (zmt h)
  .refine yao (Wp.out (yjp (yhp (yfh (yh ?_)))))
   exact yad [.kill [48,49,50]] (zny h)
theorem znz{r0:yd}{r:yd}:∀ (n:Nat),zke r0 (zav r0 n) r:=by
  intro n
  induction n with
  | zero=>intro v49 zb h; unfold zav at h; cases h
  | succ n ih=>intro v49 zb h; unfold zav at h; exact zmz ih h
theorem zpi{m:yd}{r:yd} (h:zdd m=some r):yap Pg 71 [.ptr 0 0] (yjw m) 7 (.tup []) (zlk r) 11:=by
  refine yap.intro Try.func71 yath (yal rfl) ?_
  show Wp Pg 69 7 yajl ⟨yaz _ yapq,[],_,_⟩ (yzf r)
  unfold zdd at h
  unfold yajl
  refine ybc [.movc 0 11,.movc 0 12,.movc 0 13,.movc 0 16,.movc 0 8] ?_
  refine Wp.seq ?_
  obtain ⟨r0,g1,h⟩:=yah h
  refine yav [66] yau (ydi 11 (yz (zex g1) (yp _)) (ybh _)) (yh (Wp.seq ?_))
  refine yy (yh (Wp.seq ?_))
  obtain ⟨g2,h⟩:=ygn h
  refine yav [] yau (ybh _) (yh (Wp.seq (Wp.seq ?_)))
  refine yy (yh (Wp.block (Wp.loop ?_)))
  exact ydb [.kill [2,50],.tidy] (znz _ h)
abbrev ybzo(r:yd):Ex->St->Prop:=ycb 6 [] (.tup []) (yyg r) 7
theorem zlq{to0:Int}{x0:yj}{m:yd}{r:yd} (h:zdf to0 x0 m=some r):yap Pg 76 [.ptr 0 0,.int .i64 to0,.agg [.int .i64 x0.yae,.int .i64 x0.yhn,.int .i64 x0.From,.int .i64 x0.To,.int .i64 x0.yc,.int .i64 x0.At,.int .i64 x0.ybf,.int .i64 x0.yl,.bool x0.Ok,.nil,.nil]] (zog m) 6 (.tup []) (yyg r) 7:=by
  refine yap.intro Try.func76 yabg (yal rfl) ?_
  show Wp Pg 24 6 ytp ⟨yaz _ yadk,[],_,_⟩ (ybzo r)
  unfold zdf at h
  unfold ytp
  refine ybc [.movc 0 16] ?_
  refine Wp.seq (yy (yh (Wp.seq ?_)))
  refine yy (yh ?_)
  obtain ⟨g1,h⟩:=ygn h
  replace h:=ybd h; subst h
  refine yav [] yau (ybh _) ?_
  exact ydj [.kill [0,1,2,5],.tidy]
abbrev yauq(r:(Bool × yd)):Ex->St->Prop:=ycb 7 [.tmp 4] (.bool r.1) (ztz r.2) 11
theorem zlo{x0:yj}{m:yd}{v20:Bool}{r:(Bool × yd)} (h:zdb x0 m v20=some r):Wp Pg 41 7 (.cond (.t 20) (.seq (.reg (some []) ybou) (.seq (.reg none ybov) .ret)) .skip) ⟨[(0,.ptr 0 0),(1,.bad),(3,.ptr 11 0),(4,.bad),(20,.bool v20)],[],(zue m x0),12⟩ (ybu Pg 41 7 (.seq (.reg none ybow) (.seq (.reg none ybox) (.seq (.reg none yboy) .ret))) (yauq r)):=by
  unfold zdb at h
  rcases ifS h with ⟨g2,h⟩ | ⟨g2,h⟩
  .refine yaq (Wp.seq ?_)
   obtain ⟨r0,g3,h⟩:=yah h
   replace h:=ybd h; subst h
   refine yav [76] yau (ydi 9 (yz (ziv g3) (yp _)) (ybh _)) (yh (Wp.seq ?_))
   refine yy (yh (Wp.ret (yde ?_)))
   exact ydj [.kill [0,3,20],.tidy]
  .refine yao (Wp.skip (yh (Wp.seq (Wp.reg ?_))))
   obtain ⟨r0_1,g4,h⟩:=yah h
   replace h:=ybd h; subst h
   refine yed (yz (zex g4) (yp _)) (yh (Wp.seq ?_))
   refine yy (yh (Wp.seq ?_))
   refine yy (yh (Wp.ret ?_))
   exact ydj [.kill [0,3,20],.tidy]
theorem zmq{x0:yj}{m:yd}{r:(Bool × yd)} (h:zff x0 m=some r):yap Pg 84 [.ptr 0 0,.agg [.int .i64 x0.yae,.int .i64 x0.yhn,.int .i64 x0.From,.int .i64 x0.To,.int .i64 x0.yc,.int .i64 x0.At,.int .i64 x0.ybf,.int .i64 x0.yl,.bool x0.Ok,sl yk.c x0.yi,sl (ci .u8) x0.yck]] (yjw m) 7 (.bool r.1) (ztz r.2) 11:=by
  refine yap.intro Try.func84 yboz (yal rfl) ?_
  show Wp Pg 41 7 ybga ⟨yaz _ ybgb,[],_,_⟩ (yauq r)
  unfold zff at h
  unfold ybga
  refine ybc [.movc 0 11,.movc 0 12,.movc 0 13,.movc 0 16] ?_
  refine Wp.seq (yy (yh (Wp.seq (Wp.seq ?_))))
  rcases ifS h with ⟨g1,h⟩ | ⟨g1,h⟩
  .refine yav [] yau (ybh _) (yh ?_)
   exact yad [.kill [1,4],.tidy] (zlo h)
  .refine yav [] yau (ybh _) (yh ?_)
   exact yad [.kill [1,4],.tidy] (zlo h)
abbrev ysj(r:(yag × Int × Bool)):Ex->St->Prop:=ycb 0 [.cell 8 true 3,.tmp 9,.tmp 10] (.tup [.agg [.int .i64 r.1.yn,.int .i64 r.1.yv,sl yk.c r.1.yi],.int .i64 r.2.1,.bool r.2.2]) [] 0
abbrev zmk(l:yag)(r0_1:(Int × Bool))(rec0:Int->Int->Bool->Option (yag × Int × Bool))(r:(yag × Int × Bool)):Prop:=∀ {hint t:Int} {ok:Bool},rec0 hint t ok=some r->LWp Pg 141 0 yxp ⟨[(0,.bad),(1,.bad),(2,.bad),(3,.bad),(4,.ptr 0 0),(8,.ptr 1 0),(9,.bad),(10,.bad),(11,.bad),(12,.int .i64 r0_1.1),(13,.bad),(14,.int .i64 hint),(15,.int .i64 t),(16,.bool ok),(17,.bad),(18,.bad),(19,.bad),(20,.bad),(24,.bad),(32,.bad),(51,.bad),(58,.bad),(78,.bad),(95,.bad),(96,.bad),(97,.bad),(98,.bad),(112,.bad),(121,.bad)],[],[(0,.box [.int .i64 l.yn,.int .i64 l.yv,sl yk.c l.yi]),(1,.box [.int .i64 (0:Int),.int .i64 (0:Int),.nil])],2⟩ (yay 0 (ybu Pg 141 0 (.seq (.reg (some [(1,4),(4,6)]) ytx) .ret) (ybu Pg 141 0 (.seq (.reg none yty) (.seq (.seq (.reg none ytz) (.block 2 (.loop yos))) (.seq (.reg none ync) .ret))) (ysj r))))
abbrev zpl(l:yag)(at0_1:Int)(entries_1:(List yk))(r0_7:yag)(rec0:Int->Option (yag × Int × Bool))(r:(yag × Int × Bool)):Prop:=∀ {v97:Int},rec0 v97=some r->LWp Pg 141 0 yos ⟨[(0,.bad),(1,.int .i64 at0_1),(2,.bad),(3,sl yk.c entries_1),(4,.ptr 0 0),(8,.ptr 1 0),(9,.bad),(10,.bad),(11,.bad),(12,.bad),(13,.bad),(14,.bad),(15,.bad),(16,.bad),(17,.ptr 2 0),(18,.bad),(19,.bad),(20,.bad),(24,.bad),(32,.bad),(51,.bad),(58,.bad),(78,.bad),(95,sl yk.c entries_1),(96,.int .i64 (entries_1.length:Int)),(97,.int .i64 v97),(98,.bad),(112,.bad),(121,.bad)],[],[(0,.box [.int .i64 l.yn,.int .i64 l.yv,sl yk.c l.yi]),(1,.box [.int .i64 (0:Int),.int .i64 (0:Int),.nil]),(2,.box [.int .i64 r0_7.yn,.int .i64 r0_7.yv,.own 2 3 0 ((r0_7.yi).length) false]),(3,.arr 2 (List.map yk.c r0_7.yi) 0)],4⟩ (yay 2 (ybu Pg 141 0 (.seq (.reg none ync) .ret) (ysj r)))
theorem zpt{at0_1:Int}{entries_1:(List yk)}{r0_7:yag}{out_2_1:(List yk)}{r:(yag × Int × Bool)} (h:zjb at0_1 entries_1 r0_7 out_2_1=some r):Wp Pg 141 0 (.seq (.reg none ync) .ret) ⟨[(0,.bad),(1,.int .i64 at0_1),(2,.bad),(3,sl yk.c entries_1),(4,.bad),(8,.ptr 0 0),(9,.bad),(10,.bad),(11,.bad),(12,.bad),(13,.bad),(14,.bad),(15,.bad),(16,.bad),(17,.ptr 1 0),(18,.bad),(19,.bad),(20,.bad),(24,.bad),(32,.bad),(51,.bad),(58,.bad),(78,.bad),(95,.bad),(96,.bad),(97,.bad),(98,.bad),(112,.bad),(121,.bad)],[],[(0,.box [.int .i64 (0:Int),.int .i64 (0:Int),.nil]),(1,.box [.int .i64 r0_7.yn,.int .i64 r0_7.yv,.own 2 2 0 out_2_1.length false]),(2,.arr 2 (List.map yk.c out_2_1) 0)],3⟩ (ysj r):=by
  unfold zjb at h
  replace h:=ybd h; subst h
  refine Wp.seq (yy (yh ?_))
  refine ybc [.cell 8 2 .frz] (Wp.ret ?_)
  exact yce
theorem zps{at0_1:Int}{entries_1:(List yk)}{r0_7:yag}{v97:Int}{out_2:(List yk)}{r:(yag × Int × Bool)} (h:zja at0_1 entries_1 r0_7 v97 out_2=some r):Wp Pg 141 0 (.seq (.reg (some [(1,5)]) yazu) (.out 2)) ⟨[(0,.bad),(1,.int .i64 at0_1),(2,.bad),(3,sl yk.c entries_1),(4,.bad),(8,.ptr 0 0),(9,.bad),(10,.bad),(11,.bad),(12,.bad),(13,.bad),(14,.bad),(15,.bad),(16,.bad),(17,.ptr 1 0),(18,.int .i64 v97),(19,.bad),(20,.bad),(24,.bad),(32,.bad),(51,.bad),(58,.bad),(78,.bad),(95,.bad),(96,.bad),(97,.bad),(98,.bad),(112,.bad),(121,.bad)],[],[(0,.box [.int .i64 (0:Int),.int .i64 (0:Int),.nil]),(1,.box [.int .i64 r0_7.yn,.int .i64 r0_7.yv,.own 2 2 0 out_2.length false]),(2,.arr 2 (List.map yk.c out_2) 0)],3⟩ (yay 3 (ybu Pg 141 0 (.reg none yazv) (ygz Pg 141 0 yos (yay 2 (ybu Pg 141 0 (.seq (.reg none ync) .ret) (ysj r)))))):=by
  unfold zja at h
  refine Wp.seq ?_
  obtain ⟨l_3,g23,h⟩:=yah h
  obtain ⟨r0_8,g24,h⟩:=yah h
  obtain ⟨g25,h⟩:=ygn h
  refine yav [60] yau (ydi 5 (yz (zkq g24) (yp _)) (ybh _)) (yh (Wp.out (ycnm rfl (yjp (yhp (yfh (yh ?_)))))))
  exact yad [.kill [18],.tidy] (zpt h)
theorem zsk{l:yag}{at0_1:Int}{entries_1:(List yk)}{r0_7:yag}{r:(yag × Int × Bool)} {zjl:Int->Option (yag × Int × Bool)}(zrf:zpl l at0_1 entries_1 r0_7 zjl r){v97:Int}(h:zjd l at0_1 entries_1 r0_7 zjl v97=some r):LWp Pg 141 0 yos ⟨[(0,.bad),(1,.int .i64 at0_1),(2,.bad),(3,sl yk.c entries_1),(4,.ptr 0 0),(8,.ptr 1 0),(9,.bad),(10,.bad),(11,.bad),(12,.bad),(13,.bad),(14,.bad),(15,.bad),(16,.bad),(17,.ptr 2 0),(18,.bad),(19,.bad),(20,.bad),(24,.bad),(32,.bad),(51,.bad),(58,.bad),(78,.bad),(95,sl yk.c entries_1),(96,.int .i64 (entries_1.length:Int)),(97,.int .i64 v97),(98,.bad),(112,.bad),(121,.bad)],[],[(0,.box [.int .i64 l.yn,.int .i64 l.yv,sl yk.c l.yi]),(1,.box [.int .i64 (0:Int),.int .i64 (0:Int),.nil]),(2,.box [.int .i64 r0_7.yn,.int .i64 r0_7.yv,.own 2 3 0 ((r0_7.yi).length) false]),(3,.arr 2 (List.map yk.c r0_7.yi) 0)],4⟩ (yay 2 (ybu Pg 141 0 (.seq (.reg none ync) .ret) (ysj r))):=by
  unfold zjd at h
  refine LWp.stepC yos.eq_1 ?_
  refine Wp.seq (yy (yh (Wp.seq ?_)))
  rcases ifS h with ⟨g17,h⟩ | ⟨g17,h⟩
  .refine yaq (Wp.skip (yh (Wp.seq (Wp.block (Wp.seq ?_)))))
   obtain ⟨e,g18,h⟩:=yah h
   refine yy (yh (Wp.seq ?_))
   refine yy (yh (Wp.seq (Wp.seq ?_)))
   refine yy (yh ?_)
   rcases ifS h with ⟨g19,h⟩ | ⟨g19,h⟩
   .refine yaq (Wp.seq (Wp.seq ?_))
    obtain ⟨e_1,g20,h⟩:=yah h
    have:=yek (n:=2) (id:=3) (ex:=false) (k:=.i64) g20 rfl
    have:=ygq (c:=yk.c) g20
    refine yav [] yau (ybh _) (yh ?_)
    rcases ifS h with ⟨g21,h⟩ | ⟨g21,h⟩
    .refine yaq (Wp.out (yjp (yjp (yfh (yh ?_)))))
     refine yy (yho ?_)
     exact ydb [.kill [18,19,20,98,112,121],.tidy] (zrf h)
    .refine yao (Wp.skip (yh ?_))
     obtain ⟨l_2,g22,h⟩:=yah h
     have:=ycau (n:=2) (id:=3) (k:=.i64) g22
     have:=ycey (c:=yk.c) g22
     refine yy (yh ?_)
     exact yad [.cut 3 l_2.length,.kill [4,19,20,95,96,97,98,112,121],.tidy] (zps h)
   .refine yao (Wp.skip (yh ?_))
    exact yad [.kill [4,19,20,95,96,97,98,112],.tidy] (zps h)
  .refine yao (Wp.out (yjp (yhp (yfh (yh ?_)))))
   exact yad [.kill [4,95,96,97,98],.tidy] (zpt h)
theorem ztm{l:yag}{at0_1:Int}{entries_1:(List yk)}{r0_7:yag}{r:(yag × Int × Bool)}:∀ (n:Nat),zpl l at0_1 entries_1 r0_7 (zga l at0_1 entries_1 r0_7 n) r:=by
  intro n
  induction n with
  | zero=>intro v97 h; unfold zga at h; cases h
  | succ n ih=>intro v97 h; unfold zga at h; exact zsk ih h
theorem ztk{l:yag}{hint_1:Int}{r:(yag × Int × Bool)} (h:zki l hint_1=some r):Wp Pg 141 0 (.seq (.reg (some [(1,4),(4,6)]) ytx) .ret) ⟨[(0,.bad),(1,.bad),(2,.bad),(3,.bad),(4,.ptr 0 0),(8,.ptr 1 0),(9,.bad),(10,.bad),(11,.bad),(12,.bad),(13,.bad),(14,.int .i64 hint_1),(15,.bad),(16,.bad),(17,.bad),(18,.bad),(19,.bad),(20,.bad),(24,.bad),(32,.bad),(51,.bad),(58,.bad),(78,.bad),(95,.bad),(96,.bad),(97,.bad),(98,.bad),(112,.bad),(121,.bad)],[],[(0,.box [.int .i64 l.yn,.int .i64 l.yv,sl yk.c l.yi]),(1,.box [.int .i64 (0:Int),.int .i64 (0:Int),.nil])],2⟩ (ybu Pg 141 0 (.seq (.reg none yty) (.seq (.seq (.reg none ytz) (.block 2 (.loop yos))) (.seq (.reg none ync) .ret))) (ysj r)):=by
  unfold zki at h
  refine Wp.seq ?_
  obtain ⟨r0_6,g15,h⟩:=yah h
  replace h:=ybd h; subst h
  refine yav [34] yau (ydi 1 (yz (zhh g15) (yp _)) (ybh _)) (yh ?_)
  refine ybc [.cell 8 2 .frz] (Wp.ret (yde ?_))
  exact yce
theorem zmp{r0_1:(Int × Bool)}{l:yag}{hint:Int}{v78:Bool}{r:(yag × Int × Bool)}{zbd:Int->Int->Bool->Option (yag × Int × Bool)}(zgq:zmk l r0_1 zbd r)(h:zbj zbd l hint v78=some r):Wp Pg 141 0 (.cond (.t 78) .skip (.out 0)) ⟨[(0,.bad),(1,.bad),(2,.bad),(3,.bad),(4,.ptr 0 0),(8,.ptr 1 0),(9,.bad),(10,.bad),(11,.bad),(12,.int .i64 r0_1.1),(13,.bad),(14,.int .i64 hint),(15,.bad),(16,.bad),(17,.bad),(18,.bad),(19,.bad),(20,.bad),(24,.bad),(32,.bad),(51,.bad),(58,.bad),(78,.bool v78),(95,.bad),(96,.bad),(97,.bad),(98,.bad),(112,.bad),(121,.bad)],[],[(0,.box [.int .i64 l.yn,.int .i64 l.yv,sl yk.c l.yi]),(1,.box [.int .i64 (0:Int),.int .i64 (0:Int),.nil])],2⟩ (ybu Pg 141 0 (.seq (.block 1 (.reg none yazs)) (.reg none yazt)) (ygz Pg 141 0 yxp (yay 0 (ybu Pg 141 0 (.seq (.reg (some [(1,4),(4,6)]) ytx) .ret) (ybu Pg 141 0 (.seq (.reg none yty) (.seq (.seq (.reg none ytz) (.block 2 (.loop yos))) (.seq (.reg none ync) .ret))) (ysj r)))))):=by
  unfold zbj at h
  rcases ifS h with ⟨g13,h⟩ | ⟨g13,h⟩
  .refine yaq (Wp.skip (yh (Wp.seq (Wp.block ?_))))
   refine yy (ycm (yh (Wp.reg ?_)))
   obtain ⟨r0_5,g14,h⟩:=yah h
   refine ybw 3 (yz (zcr g14) (yp _)) ?_
   refine ybo (yp _) (yho ?_)
   exact ydb [.kill [78]] (zgq h)
  .refine yao (Wp.out (yjp (yhp (yfh (yh ?_)))))
   exact yad [.kill [12,78]] (ztk h)
theorem zsj{l:yag}{r0_1:(Int × Bool)}{r:(yag × Int × Bool)} {zbd:Int->Int->Bool->Option (yag × Int × Bool)}(zgq:zmk l r0_1 zbd r){hint t:Int}{ok:Bool}(h:zhb l r0_1 zbd hint t ok=some r):LWp Pg 141 0 yxp ⟨[(0,.bad),(1,.bad),(2,.bad),(3,.bad),(4,.ptr 0 0),(8,.ptr 1 0),(9,.bad),(10,.bad),(11,.bad),(12,.int .i64 r0_1.1),(13,.bad),(14,.int .i64 hint),(15,.int .i64 t),(16,.bool ok),(17,.bad),(18,.bad),(19,.bad),(20,.bad),(24,.bad),(32,.bad),(51,.bad),(58,.bad),(78,.bad),(95,.bad),(96,.bad),(97,.bad),(98,.bad),(112,.bad),(121,.bad)],[],[(0,.box [.int .i64 l.yn,.int .i64 l.yv,sl yk.c l.yi]),(1,.box [.int .i64 (0:Int),.int .i64 (0:Int),.nil])],2⟩ (yay 0 (ybu Pg 141 0 (.seq (.reg (some [(1,4),(4,6)]) ytx) .ret) (ybu Pg 141 0 (.seq (.reg none yty) (.seq (.seq (.reg none ytz) (.block 2 (.loop yos))) (.seq (.reg none ync) .ret))) (ysj r)))):=by
  unfold zhb at h
  refine LWp.stepC yxp.eq_1 ?_
  refine Wp.seq (Wp.seq ?_)
  rcases ifS h with ⟨g11,h⟩ | ⟨g11,h⟩
  .rcases ifS h with ⟨g12,h⟩ | ⟨g12,h⟩
   .refine yy (yh ?_)
    exact yad [.kill [15,16]] (zmp (r0_1:=r0_1) zgq h)
   .refine yy (yh ?_)
    exact yad [.kill [15,16]] (zmp (r0_1:=r0_1) zgq h)
  .refine yy (yh ?_)
   exact yad [.kill [15,16]] (zmp (r0_1:=r0_1) zgq h)
theorem ztl{l:yag}{r0_1:(Int × Bool)}{r:(yag × Int × Bool)}:∀ (n:Nat),zmk l r0_1 (zaj l r0_1 n) r:=by
  intro n
  induction n with
  | zero=>intro hint t ok h; unfold zaj at h; cases h
  | succ n ih=>intro hint t ok h; unfold zaj at h; exact zsj ih h
theorem zpr{l:yag}{at0_1 term_1:Int}{entries_1:(List yk)}{r:(yag × Int × Bool)} (h:ziz l at0_1 term_1 entries_1=some r):Wp Pg 141 0 (.seq (.reg none ybpa) (.seq (.seq (.reg none ybpb) (.cond (.t 51) (.seq (.reg (some [(1,2)]) ybpc) .ret) .skip)) (.seq (.seq (.reg none ybpd) (.cond (.t 58) (.seq (.reg none yazq) (.seq (.seq (.reg none yazr) (.block 0 (.loop yxp))) (.seq (.reg (some [(1,4),(4,6)]) ytx) .ret))) .skip)) (.seq (.reg none yty) (.seq (.seq (.reg none ytz) (.block 2 (.loop yos))) (.seq (.reg none ync) .ret)))))) ⟨[(0,.bad),(1,.int .i64 at0_1),(2,.int .i64 term_1),(3,sl yk.c entries_1),(4,.ptr 0 0),(8,.ptr 1 0),(9,.bad),(10,.bad),(11,.bad),(12,.bad),(13,.bad),(14,.bad),(15,.bad),(16,.bad),(17,.bad),(18,.bad),(19,.bad),(20,.bad),(24,.bad),(32,.bad),(51,.bad),(58,.bad),(78,.bad),(95,.bad),(96,.bad),(97,.bad),(98,.bad),(112,.bad),(121,.bad)],[],[(0,.box [.int .i64 l.yn,.int .i64 l.yv,sl yk.c l.yi]),(1,.box [.int .i64 (0:Int),.int .i64 (0:Int),.nil])],2⟩ (ysj r):=by
  unfold ziz at h
  refine Wp.seq (Wp.reg ?_)
  obtain ⟨r0_1,g5,h⟩:=yah h
  refine ybw 3 (yz (zcr g5) (yp _)) ?_
  refine ybo (yp _) (yh (Wp.seq (Wp.seq ?_)))
  refine yy (yh ?_)
  rcases ifS h with ⟨g6,h⟩ | ⟨g6,h⟩
  .refine yao (Wp.skip (yh (Wp.seq (Wp.seq ?_))))
   refine yy (yh ?_)
   rcases ifS h with ⟨g9,h⟩ | ⟨g9,h⟩
   .refine yaq (Wp.seq ?_)
    refine yy (yh (Wp.seq (Wp.seq (Wp.reg ?_))))
    obtain ⟨r0_4,g10,h⟩:=yah h
    refine ybw 3 (yz (zcr g10) (yp _)) ?_
    refine ybo (yp _) (yh (Wp.block (Wp.loop ?_)))
    exact ydb [.kill [1,2,3,13,51,58]] (ztl _ h)
   .refine yao (Wp.skip (yh (Wp.seq (Wp.reg ?_))))
    obtain ⟨r0_7,g16,h⟩:=yah h
    refine yjz 2 (yz (zhh g16) (yp _)) ?_
    refine ybo (yp _) (yh (Wp.seq (Wp.seq ?_)))
    refine yy (yh (Wp.block (Wp.loop ?_)))
    exact ydb [.kill [2,12,13,51,58],.tidy] (ztm _ h)
  .refine yaq (Wp.seq ?_)
   obtain ⟨r0_2,g7,h⟩:=yah h
   obtain ⟨r0_3,g8,h⟩:=yah h
   replace h:=ybd h; subst h
   refine yav [34] yau (ydi 1 (yz (zhh g7) (yp _)) (ydi 3 (yz (zbk g8) (yp _)) (ybh _))) (yh ?_)
   refine ybc [.cell 8 2 .frz] (Wp.ret (yde ?_))
   exact yce
theorem ztu{l:yag}{at0:Int}{term:Int}{entries:(List yk)}{r:(yag × Int × Bool)} (h:zmm l at0 term entries=some r):yap Pg 85 [.agg [.int .i64 l.yn,.int .i64 l.yv,sl yk.c l.yi],.int .i64 at0,.int .i64 term,sl yk.c entries] [] 0 (.tup [.agg [.int .i64 r.1.yn,.int .i64 r.1.yv,sl yk.c r.1.yi],.int .i64 r.2.1,.bool r.2.2]) [] 0:=by
  refine yap.intro Try.func85 ybpe (yal rfl) ?_
  show Wp Pg 141 0 ybgc ⟨yaz _ ybgd,[],_,_⟩ (ysj r)
  unfold zmm at h
  unfold ybgc
  refine ybc [] ?_
  refine Wp.seq (yy (yh (Wp.seq (Wp.seq ?_))))
  refine yy (yh ?_)
  rcases ifS h with ⟨g1,h⟩ | ⟨g1,h⟩
  .refine yaq (Wp.seq ?_)
   refine yy (yh (Wp.seq (Wp.seq ?_)))
   refine yy (yh ?_)
   rcases ifS h with ⟨g2,h⟩ | ⟨g2,h⟩
   .refine yaq (Wp.seq ?_)
    obtain ⟨r0,g3,h⟩:=yah h
    replace h:=ybd h; subst h
    refine yav [34] yau (ydi 1 (yz (zhh g3) (yp _)) (ybh _)) (yh ?_)
    refine ybc [.cell 8 2 .frz] (Wp.ret (yde (yde ?_)))
    exact yce
   .refine yao (Wp.skip (yh ?_))
    obtain ⟨l_1,g4,h⟩:=yah h
    refine yav [] yau (ybh _) (yh ?_)
    exact yad [.kill [0,9,10,11,12,13,14,15,16,17,18,19,20,24,32,51,58,78,95,96,97,98,112,121],.tidy] (zpr h)
  .refine yao (Wp.skip (yh ?_))
   exact yad [.kill [0,9,10,11,12,13,14,15,16,17,18,19,20,24,32,51,58,78,95,96,97,98,112,121],.tidy] (zpr h)
abbrev yaul(r:yd):Ex->St->Prop:=ycb 7 [] (.tup []) (zlk r) 11
theorem zkk{x0:yj}{r0:(Bool × yd)}{r0_1:(yag × Int × Bool)}{ok:Bool}{m_60 m_70:Int}{m_80:(List yk)}{m_90:Int}{r:yd} (h:zcb x0 r0 r0_1 ok m_60 m_70 m_80 m_90=some r):Wp Pg 59 7 (.reg (some []) ybny) ⟨[(0,.ptr 0 0),(1,.bad),(3,.ptr 11 0),(4,.bad),(5,.int .i64 r0_1.2.1),(6,.bool ok),(10,.bad),(27,.bad)],[],(zuf r0.2 x0 m_60 m_70 m_80 m_90),12⟩ (yaul r):=by
  unfold zcb at h
  obtain ⟨r0_2,g5,h⟩:=yah h
  replace h:=ybd h; subst h
  refine yav [76] yau (ydi 11 (yz (zlq g5) (yp _)) (ybh _)) ?_
  exact ydj [.kill [0,3,5,6],.drop [1],.tidy]
theorem zpf{x0:yj}{m:yd}{r:yd} (h:zda x0 m=some r):yap Pg 72 [.ptr 0 0,.agg [.int .i64 x0.yae,.int .i64 x0.yhn,.int .i64 x0.From,.int .i64 x0.To,.int .i64 x0.yc,.int .i64 x0.At,.int .i64 x0.ybf,.int .i64 x0.yl,.bool x0.Ok,sl yk.c x0.yi,sl (ci .u8) x0.yck]] (yjw m) 7 (.tup []) (zlk r) 11:=by
  refine yap.intro Try.func72 ybnz (yal rfl) ?_
  show Wp Pg 59 7 ybfg ⟨yaz _ ybfh,[],_,_⟩ (yaul r)
  unfold zda at h
  unfold ybfg
  refine ybc [.movc 0 11,.movc 0 12,.movc 0 13,.movc 0 16] ?_
  refine Wp.seq (yy (yh (Wp.seq (Wp.seq (Wp.reg ?_)))))
  obtain ⟨r0,g1,h⟩:=yah h
  refine yjz 3 (yz (zmq g1) (yp _)) ?_
  refine ybo (yp _) (yh ?_)
  rcases ifS h with ⟨g2,h⟩ | ⟨g2,h⟩
  .refine yao (Wp.skip (yh (Wp.seq ?_)))
   obtain ⟨r0_1,g3,h⟩:=yah h
   refine yav [] yau (ydi 11 (yz (ztu g3) (yp _)) (ybh _)) (yh (Wp.seq (Wp.seq ?_)))
   refine yy (yh ?_)
   rcases ifS h with ⟨g4,h⟩ | ⟨g4,h⟩
   .refine yaq (Wp.seq ?_)
    refine yy (yh ?_)
    refine yav [] yau (ybh _) (yh ?_)
    exact yad [.kill [1,4,10,27],.tidy] (zkk h)
   .refine yao (Wp.skip (yh ?_))
    exact yad [.kill [1,4,10,27],.cell 0 8 .frz,.tidy] (zkk h)
  .replace h:=ybd h; subst h
   refine yaq (Wp.ret (yde ?_))
   exact ydj [.cell 0 8 .frz,.kill [0,1,3,4,5,6,10,27],.drop [1],.tidy]
abbrev yaup(r:yd):Ex->St->Prop:=ycb 7 [] (.tup []) (yjw r) 7
theorem zgn{m:yd}{r0:Int}{v39:Bool}{r:yd} (h:zcq m r0 v39=some r):Wp Pg 45 7 (.cond (.t 39) (.reg none yajm) .skip) ⟨[(0,.ptr 0 0),(2,.int .i64 r0),(3,.bad),(4,.bad),(39,.bool v39)],[],(yjw m),7⟩ (yaup r):=by
  unfold zcq at h
  rcases ifS h with ⟨g5,h⟩ | ⟨g5,h⟩
  .replace h:=ybd h; subst h
   refine yaq ?_
   refine yy ?_
   exact ydj [.kill [0,2,39],.tidy]
  .replace h:=ybd h; subst h
   refine yao (Wp.skip ?_)
   exact ydj [.kill [0,2,39],.tidy]
theorem zon{m:yd}{r:yd} (h:zef m=some r):yap Pg 80 [.ptr 0 0] (yjw m) 7 (.tup []) (yjw r) 7:=by
  refine yap.intro Try.func80 yajo (yal rfl) ?_
  show Wp Pg 45 7 yyj ⟨yaz _ yajn,[],_,_⟩ (yaup r)
  unfold zef at h
  unfold yyj
  refine ybc [] ?_
  refine Wp.seq (Wp.reg ?_)
  obtain ⟨r0,g1,h⟩:=yah h
  refine ybw 6 (yz (zlh g1) (yp _)) ?_
  refine ybo (yp _) (yh (Wp.seq (Wp.reg ?_)))
  obtain ⟨r0_1,g2,h⟩:=yah h
  refine ybw 7 (yz (zcr g2) (yp _)) ?_
  refine ybo (yp _) (yh (Wp.seq ?_))
  rcases ifS h with ⟨g3,h⟩ | ⟨g3,h⟩
  .rcases ifS h with ⟨g4,h⟩ | ⟨g4,h⟩
   .refine yy (yh ?_)
    exact yad [.kill [3,4]] (zgn h)
   .refine yy (yh ?_)
    exact yad [.kill [3,4]] (zgn h)
  .refine yy (yh ?_)
   exact yad [.kill [3,4]] (zgn h)
abbrev yagm(r:yd):Ex->St->Prop:=ycb 7 [] (.tup []) (yus r) 8
theorem zlu{x0:yj}{m_00 m_10 m_20 m_30 m_40 m_50 m_60 m_70 m_90 ze zh:Int}{zd:(List Int)}{zf:(List Bool)}{zb zg:(List Int)}{m_80:(List yk)}{zi:(List yj)}{r:yd} (h:zdi x0 m_00 m_10 m_20 m_30 m_40 m_50 m_60 m_70 m_90 ze zh zd zf zb zg m_80 zi=some r):Wp Pg 127 7 (.reg none yati) ⟨[(0,.ptr 0 0),(1,.bad),(3,.ptr 9 0),(4,.bad),(20,.bad),(25,.bad),(92,.bad)],[],(zuk x0 m_00 m_10 m_20 m_30 m_40 m_50 m_60 m_70 m_80 m_90 zd zf zb zg ze zh zi),10⟩ (yagm r):=by
  unfold zdi at h
  refine Wp.reg ?_
  obtain ⟨r0_3,g14,h⟩:=yah h
  replace h:=ybd h; subst h
  refine yed (yz (zqw g14) (yp _)) ?_
  exact ydj [.kill [0,3],.tidy]
theorem zlt{x0:yj}{m:yd}{v20:Bool}{r:yd} (h:zbm x0 m v20=some r):Wp Pg 127 7 (.cond (.t 20) .ret .skip) ⟨[(0,.ptr 0 0),(1,.bad),(3,.ptr 9 0),(4,.bad),(20,.bool v20),(25,.bad),(92,.bad)],[],(zug m x0),10⟩ (ybu Pg 127 7 (.seq (.reg none yboa) (.seq (.seq (.reg none ybob) (.cond (.t 25) (.seq (.reg (some [(4,21),(10,21),(13,21),(15,21)]) yboc) (.seq (.reg (some []) ybod) (.seq (.reg none yboe) (.seq (.reg (some [(4,13),(7,13)]) ybof) (.cond (.t 92) .ret .skip))))) (.reg (some []) ybog))) (.reg none yati))) (yagm r)):=by
  unfold zbm at h
  rcases ifS h with ⟨g2,h⟩ | ⟨g2,h⟩
  .replace h:=ybd h; subst h
   refine yaq (Wp.ret (yde ?_))
   exact ydj [.cell 0 8 .frz,.kill [0,3,20],.tidy]
  .refine yao (Wp.skip (yh (Wp.seq ?_)))
   refine yy (yh (Wp.seq (Wp.seq ?_)))
   refine yy (yh ?_)
   rcases ifS h with ⟨g3,h⟩ | ⟨g3,h⟩
   .refine yaq (Wp.seq ?_)
    obtain ⟨e,g4,h⟩:=yah h
    obtain ⟨r0,g5,h⟩:=yah h
    have:=yek (n:=1) (id:=5) (ex:=false) (k:=.i64) g4 rfl
    have:=ygq (c:=(ci .i64)) g4
    have:=ylc (ci .i64) m.yb.yaa (IntKind.i64.wrap (x0.From - (1:Int))) (if e < (if r0 < x0.At then r0 else x0.At) then (if r0 < x0.At then r0 else x0.At) else e)
    try simp only [EV,EVt, *] at this
    refine yav [] yau (ydi 21 (yz (zbk g5) (yp _)) (ybh _)) (yh (Wp.seq ?_))
    obtain ⟨e_1,g6,h⟩:=yah h
    obtain ⟨e_2,g7,h⟩:=yah h
    have:=yek (n:=1) (id:=4) (ex:=false) (k:=.i64) g6 rfl
    have:=ygq (c:=(ci .i64)) g6
    have:=yek (n:=1) (id:=5) (ex:=false) (k:=.i64) g7 rfl
    try simp only [EV,EVt, *] at this
    have:=ygq (c:=(ci .i64)) g7
    try simp only [EV,EVt, *] at this
    have:=ylc (ci .i64) m.yb.Next (IntKind.i64.wrap (x0.From - (1:Int))) (if e_1 < (IntKind.i64.wrap (e_2 + (1:Int))) then (IntKind.i64.wrap (e_2 + (1:Int))) else e_1)
    try simp only [EV,EVt, *] at this
    refine yav [] yau (ybh _) (yh (Wp.seq (Wp.reg ?_)))
    obtain ⟨r0_1,g8,h⟩:=yah h
    refine yed (yz (zon g8) (yp _)) (yh (Wp.seq ?_))
    obtain ⟨e_3,g9,h⟩:=yah h
    obtain ⟨r0_2,g10,h⟩:=yah h
    have:=yek (n:=1) (id:=4) (ex:=false) (k:=.i64) g9 rfl
    have:=ygq (c:=(ci .i64)) g9
    refine yav [] yau (ydi 13 (yz (zbk g10) (yp _)) (ybh _)) (yh ?_)
    rcases ifS h with ⟨g11,h⟩ | ⟨g11,h⟩
    .replace h:=ybd h; subst h
     refine yaq (Wp.ret (yde ?_))
     exact ydj [.cell 0 8 .frz,.kill [0,3,4,20,25,92],.tidy]
    .refine yao (Wp.skip (yh ?_))
     exact yad [.kill [4,20,25,92],.tidy] (zlu h)
   .refine yao ?_
    obtain ⟨e_4,g12,h⟩:=yah h
    obtain ⟨e_5,g13,h⟩:=yah h
    have:=yek (n:=1) (id:=5) (ex:=false) (k:=.i64) g12 rfl
    have:=ygq (c:=(ci .i64)) g12
    have:=yek (n:=1) (id:=4) (ex:=false) (k:=.i64) g13 rfl
    have:=ygq (c:=(ci .i64)) g13
    have:=ylc (ci .i64) m.yb.Next (IntKind.i64.wrap (x0.From - (1:Int))) (if (IntKind.i64.wrap (e_4 + (1:Int))) < (IntKind.i64.wrap ((if x0.At < (IntKind.i64.wrap (e_5 - (2:Int))) then x0.At else (IntKind.i64.wrap (e_5 - (2:Int)))) + (1:Int))) then (IntKind.i64.wrap ((if x0.At < (IntKind.i64.wrap (e_5 - (2:Int))) then x0.At else (IntKind.i64.wrap (e_5 - (2:Int)))) + (1:Int))) else (IntKind.i64.wrap (e_4 + (1:Int))))
    try simp only [EV,EVt, *] at this
    refine yav [] yau (ybh _) (yh ?_)
    exact yad [.kill [4,20,25],.tidy] (zlu h)
theorem zqx{x0:yj}{m:yd}{r:yd} (h:zfi x0 m=some r):yap Pg 73 [.ptr 0 0,.agg [.int .i64 x0.yae,.int .i64 x0.yhn,.int .i64 x0.From,.int .i64 x0.To,.int .i64 x0.yc,.int .i64 x0.At,.int .i64 x0.ybf,.int .i64 x0.yl,.bool x0.Ok,sl yk.c x0.yi,sl (ci .u8) x0.yck]] (yjw m) 7 (.tup []) (yus r) 8:=by
  refine yap.intro Try.func73 yboh (yal rfl) ?_
  show Wp Pg 127 7 ybfi ⟨yaz _ ybfj,[],_,_⟩ (yagm r)
  unfold zfi at h
  unfold ybfi
  refine ybc [.movc 0 16,.movc 0 8] ?_
  refine Wp.seq (yy (yh (Wp.seq (Wp.seq ?_))))
  rcases ifS h with ⟨g1,h⟩ | ⟨g1,h⟩
  .refine yav [] yau (ybh _) (yh ?_)
   exact yad [.kill [1,4,25,92],.tidy] (zlt h)
  .refine yav [] yau (ybh _) (yh ?_)
   exact yad [.kill [1,4,25,92],.tidy] (zlt h)
abbrev ydkq(r:(yag × Int)):Ex->St->Prop:=ycb 0 [.cell 4 true 3,.tmp 5] (.tup [.agg [.int .i64 r.1.yn,.int .i64 r.1.yv,sl yk.c r.1.yi],.int .i64 r.2]) [] 0
theorem zoy{l:yag}{at0:Int}{r:(yag × Int)} (h:zic l at0=some r):yap Pg 56 [.agg [.int .i64 l.yn,.int .i64 l.yv,sl yk.c l.yi],.int .i64 at0] [] 0 (.tup [.agg [.int .i64 r.1.yn,.int .i64 r.1.yv,sl yk.c r.1.yi],.int .i64 r.2]) [] 0:=by
  refine yap.intro Try.func56 ybno (yal rfl) ?_
  show Wp Pg 28 0 ybew ⟨yaz _ ybex,[],_,_⟩ (ydkq r)
  unfold zic at h
  unfold ybew
  refine ybc [] ?_
  refine Wp.seq (yy (yh (Wp.seq (Wp.reg ?_))))
  obtain ⟨r0,g1,h⟩:=yah h
  refine ybw 3 (yz (zcr g1) (yp _)) ?_
  refine ybo (yp _) (yh (Wp.seq (Wp.seq ?_)))
  refine yy (yh ?_)
  rcases ifS h with ⟨g2,h⟩ | ⟨g2,h⟩
  .refine yao (Wp.skip (yh (Wp.seq (Wp.reg ?_))))
   obtain ⟨l_1,g3,h⟩:=yah h
   obtain ⟨r0_1,g4,h⟩:=yah h
   replace h:=ybd h; subst h
   refine yjz 10 (yz (zkq g4) (yp _)) ?_
   refine ybo (yp _) (yh ?_)
   refine ybc [.cell 4 2 .frz] (Wp.ret ?_)
   exact yce
  .replace h:=ybd h; subst h
   refine yaq (Wp.seq ?_)
   refine yy (yh ?_)
   refine ybc [.cell 4 2 .frz] (Wp.ret (yde ?_))
   exact yce
abbrev ycdc(r:yag):Ex->St->Prop:=ycb 0 [.cell 6 true 3] (.agg [.int .i64 r.yn,.int .i64 r.yv,sl yk.c r.yi]) [] 0
theorem zoe{l:yag}{at0 term:Int}{v22:Bool}{r:yag} (h:zje l at0 term v22=some r):Wp Pg 33 0 (.cond (.t 22) (.seq (.reg none ybpf) (.seq (.reg none ybpg) .ret)) .skip) ⟨[(0,.bad),(1,.int .i64 at0),(2,.int .i64 term),(3,.ptr 0 0),(6,.ptr 1 0),(7,.bad),(8,.bad),(9,.bad),(22,.bool v22)],[],[(0,.box [.int .i64 l.yn,.int .i64 l.yv,sl yk.c l.yi]),(1,.box [.int .i64 (0:Int),.int .i64 (0:Int),.nil])],2⟩ (ybu Pg 33 0 (.seq (.reg none ybph) .ret) (ycdc r)):=by
  unfold zje at h
  rcases ifS h with ⟨g3,h⟩ | ⟨g3,h⟩
  .refine yaq (Wp.seq (Wp.reg ?_))
   obtain ⟨r0_1,g4,h⟩:=yah h
   replace h:=ybd h; subst h
   refine ybw 3 (yz (zoy g4) (yp _)) ?_
   refine ybo (yp _) (yh (Wp.seq ?_))
   refine yy (yh (Wp.ret (yde ?_)))
   exact yce
  .replace h:=ybd h; subst h
   refine yao (Wp.skip (yh (Wp.seq ?_)))
   refine yy (yh ?_)
   refine ybc [.cell 6 2 .frz] (Wp.ret ?_)
   exact yce
theorem ztq{l:yag}{at0:Int}{term:Int}{r:yag} (h:zld l at0 term=some r):yap Pg 86 [.agg [.int .i64 l.yn,.int .i64 l.yv,sl yk.c l.yi],.int .i64 at0,.int .i64 term] [] 0 (.agg [.int .i64 r.yn,.int .i64 r.yv,sl yk.c r.yi]) [] 0:=by
  refine yap.intro Try.func86 ybpi (yal rfl) ?_
  show Wp Pg 33 0 ybge ⟨yaz _ ybgf,[],_,_⟩ (ycdc r)
  unfold zld at h
  unfold ybge
  refine ybc [] ?_
  refine Wp.seq (yy (yh (Wp.seq (Wp.seq (Wp.reg ?_)))))
  obtain ⟨r0,g1,h⟩:=yah h
  refine ybw 3 (yz (zcr g1) (yp _)) ?_
  refine ybo (yp _) (yh (Wp.seq ?_))
  rcases ifS h with ⟨g2,h⟩ | ⟨g2,h⟩
  .refine yy (yh ?_)
   exact yad [.kill [0,7,8,9],.tidy] (zoe h)
  .refine yy (yh ?_)
   exact yad [.kill [0,7,8,9],.tidy] (zoe h)
abbrev yaum(r:yd):Ex->St->Prop:=ycb 7 [] (.tup []) (zua r) 12
theorem zlr{x0:yj}{r0:(Bool × yd)}{m_60 m_70:Int}{m_80:(List yk)}{m_90:Int}{zd:(List Int)}{r:yd} (h:zdg x0 r0 m_60 m_70 m_80 m_90 zd=some r):Wp Pg 58 7 (.reg (some []) yboi) ⟨[(0,.ptr 0 0),(1,.bad),(3,.ptr 12 0),(7,.bad),(15,.bad)],[],(zul r0.2 x0 m_60 m_70 m_80 m_90 zd),13⟩ (yaum r):=by
  unfold zdg at h
  obtain ⟨r0_2,g6,h⟩:=yah h
  replace h:=ybd h; subst h
  refine yav [76] yau (ydi 14 (yz (zlq g6) (yp _)) (ybh _)) ?_
  exact ydj [.kill [0,3],.drop [1],.tidy]
theorem zqv{x0:yj}{m:yd}{r:yd} (h:zfg x0 m=some r):yap Pg 74 [.ptr 0 0,.agg [.int .i64 x0.yae,.int .i64 x0.yhn,.int .i64 x0.From,.int .i64 x0.To,.int .i64 x0.yc,.int .i64 x0.At,.int .i64 x0.ybf,.int .i64 x0.yl,.bool x0.Ok,sl yk.c x0.yi,sl (ci .u8) x0.yck]] (yjw m) 7 (.tup []) (zua r) 12:=by
  refine yap.intro Try.func74 yboj (yal rfl) ?_
  show Wp Pg 58 7 ybfk ⟨yaz _ ybfl,[],_,_⟩ (yaum r)
  unfold zfg at h
  unfold ybfk
  refine ybc [.movc 0 10,.movc 0 11,.movc 0 12,.movc 0 13,.movc 0 16] ?_
  refine Wp.seq (yy (yh (Wp.seq (Wp.seq (Wp.reg ?_)))))
  obtain ⟨r0,g1,h⟩:=yah h
  refine yjz 3 (yz (zmq g1) (yp _)) ?_
  refine ybo (yp _) (yh ?_)
  rcases ifS h with ⟨g2,h⟩ | ⟨g2,h⟩
  .refine yao (Wp.skip (yh (Wp.seq (Wp.seq ?_))))
   refine yav [] yau (ybh _) (yh ?_)
   rcases ifS h with ⟨g3,h⟩ | ⟨g3,h⟩
   .refine yaq ?_
    obtain ⟨r0_1,g4,h⟩:=yah h
    obtain ⟨g5,h⟩:=ygn h
    refine yav [] yau (ydi 12 (yz (ztq g4) (yp _)) (ybh _)) (yh ?_)
    exact yad [.kill [1,7,15],.tidy] (zlr h)
   .refine yao (Wp.skip (yh ?_))
    exact yad [.kill [1,7,15],.cell 0 8 .frz,.tidy] (zlr h)
  .replace h:=ybd h; subst h
   refine yaq (Wp.ret (yde ?_))
   exact ydj [.cell 0 8 .frz,.kill [0,1,3,7,15],.drop [1],.tidy]
theorem zpp{r:Bool}(h:znt=some r):yap Pg 10 [] [] 0 (.bool r) [] 0:=by
  obtain rfl:=ybd h
  exact zrq
abbrev yccv(r:(ye × Int)):Ex->St->Prop:=ycb 0 [.cell 4 true 16,.tmp 5] (.tup [.agg [.int .i64 r.1.Id,.int .i64 r.1.N,.int .i64 r.1.yc,.int .i64 r.1.yan,.int .i64 r.1.ym,.int .i64 r.1.yak,.int .i64 r.1.yg.yn,.int .i64 r.1.yg.yv,sl yk.c r.1.yg.yi,.int .i64 r.1.yl,sl (ci .u8) r.1.yaf,sl cb r.1.yq,sl (ci .i64) r.1.Next,sl (ci .i64) r.1.yaa,.int .i64 r.1.yu,.int .i64 r.1.yam],.int .i64 r.2]) [] 0
theorem zkr{id n0:Int}{v20:Bool}{r:(ye × Int)} (h:zhg id n0 v20=some r):Wp Pg 27 0 (.cond (.t 20) (.seq (.reg none yblj) .ret) .skip) ⟨[(0,.int .i64 id),(1,.int .i64 n0),(4,.ptr 0 0),(5,.bad),(20,.bool v20)],[],(hp6 (0:Int) (0:Int) (0:Int) (0:Int) (0:Int) (0:Int) (0:Int) (0:Int) (0:Int) (0:Int) (0:Int)),1⟩ (ybu Pg 27 0 (.seq (.reg none yblk) .ret) (yccv r)):=by
  unfold zhg at h
  rcases ifS h with ⟨g4,h⟩ | ⟨g4,h⟩
  .replace h:=ybd h; subst h
   refine yaq (Wp.seq ?_)
   refine yy (yh ?_)
   refine ybc [.cell 4 8 .frz,.cell 4 10 .frz,.cell 4 11 .frz,.cell 4 12 .frz,.cell 4 13 .frz] (Wp.ret (yde ?_))
   exact yce
  .replace h:=ybd h; subst h
   refine yao (Wp.skip (yh (Wp.seq ?_)))
   refine yy (yh ?_)
   refine ybc [.cell 4 8 .frz,.cell 4 10 .frz,.cell 4 11 .frz,.cell 4 12 .frz,.cell 4 13 .frz] (Wp.ret ?_)
   exact yce
theorem zry{id:Int}{n0:Int}{r:(ye × Int)} (h:zll id n0=some r):yap Pg 11 [.int .i64 id,.int .i64 n0] [] 0 (.tup [.agg [.int .i64 r.1.Id,.int .i64 r.1.N,.int .i64 r.1.yc,.int .i64 r.1.yan,.int .i64 r.1.ym,.int .i64 r.1.yak,.int .i64 r.1.yg.yn,.int .i64 r.1.yg.yv,sl yk.c r.1.yg.yi,.int .i64 r.1.yl,sl (ci .u8) r.1.yaf,sl cb r.1.yq,sl (ci .i64) r.1.Next,sl (ci .i64) r.1.yaa,.int .i64 r.1.yu,.int .i64 r.1.yam],.int .i64 r.2]) [] 0:=by
  refine yap.intro Try.func11 ybll (yal rfl) ?_
  show Wp Pg 27 0 ybcy ⟨yaz _ ybcz,[],_,_⟩ (yccv r)
  unfold zll at h
  unfold ybcy
  refine ybc [] ?_
  refine Wp.seq (yy (yh (Wp.seq (Wp.seq ?_))))
  rcases ifS h with ⟨g1,h⟩ | ⟨g1,h⟩
  .refine yy (yh ?_)
   exact yad [.kill [5]] (zkr h)
  .rcases ifS h with ⟨g2,h⟩ | ⟨g2,h⟩
   .refine yy (yh ?_)
    exact yad [.kill [5]] (zkr h)
   .rcases ifS h with ⟨g3,h⟩ | ⟨g3,h⟩
    .refine yy (yh ?_)
     exact yad [.kill [5]] (zkr h)
    .refine yy (yh ?_)
     exact yad [.kill [5]] (zkr h)
abbrev yaki(r:Int):Ex->St->Prop:=ycb 0 [.tmp 2] (.int .i64 r) [] 0
abbrev zlw(l:yag)(rec0:Int->Int->Option Int)(r:Int):Prop:=∀ {term v39:Int},rec0 term v39=some r->LWp Pg 55 0 yxj ⟨[(0,.bad),(1,.bad),(2,.bad),(3,.int .i64 term),(5,.bad),(32,.bad),(37,sl yk.c l.yi),(38,.int .i64 (l.yi.length:Int)),(39,.int .i64 v39),(40,.bad),(51,.bad)],[],[],0⟩ (yay 0 (ybu Pg 55 0 (.seq (.reg none yxk) .ret) (yaki r)))
theorem zod{l:yag}{v39:Int}{e:yk}{v51:Bool}{r:Int}{zay:Int->Int->Option Int}(zhq:zlw l zay r)(h:zha zay v39 e v51=some r):Wp Pg 55 0 (.cond (.t 51) (.seq (.reg none ybmz) .ret) .skip) ⟨[(0,.bad),(1,.bad),(2,.bad),(3,.bad),(5,.ptr 0 0),(32,.bad),(37,sl yk.c l.yi),(38,.int .i64 (l.yi.length:Int)),(39,.int .i64 v39),(40,.bad),(51,.bool v51)],[],[(0,.box [.int .i64 e.yc,sl (ci .u8) e.yck])],1⟩ (ybu Pg 55 0 (.reg none ybna) (yay 1 (ybu Pg 55 0 (.reg none yazp) (ygz Pg 55 0 yxj (yay 0 (ybu Pg 55 0 (.seq (.reg none yxk) .ret) (yaki r))))))):=by
  unfold zha at h
  rcases ifS h with ⟨g9,h⟩ | ⟨g9,h⟩
  .replace h:=ybd h; subst h
   refine yaq (Wp.seq ?_)
   refine yy (yh (Wp.ret (yde (yfd (yde (yadm (yfd (yde ?_))))))))
   exact yce
  .refine yao (Wp.skip (yh ?_))
   refine yy (ycm (yh ?_))
   refine yy (yho ?_)
   exact ydb [.kill [5,51],.tidy] (zhq h)
theorem zra{l:yag}{r:Int} {zay:Int->Int->Option Int}(zhq:zlw l zay r){term v39:Int}(h:zhi l zay term v39=some r):LWp Pg 55 0 yxj ⟨[(0,.bad),(1,.bad),(2,.bad),(3,.int .i64 term),(5,.bad),(32,.bad),(37,sl yk.c l.yi),(38,.int .i64 (l.yi.length:Int)),(39,.int .i64 v39),(40,.bad),(51,.bad)],[],[],0⟩ (yay 0 (ybu Pg 55 0 (.seq (.reg none yxk) .ret) (yaki r))):=by
  unfold zhi at h
  refine LWp.stepC yxj.eq_1 ?_
  refine Wp.seq (yy (yh (Wp.seq ?_)))
  rcases ifS h with ⟨g6,h⟩ | ⟨g6,h⟩
  .refine yaq (Wp.skip (yh (Wp.seq (Wp.block (Wp.seq ?_)))))
   obtain ⟨e,g7,h⟩:=yah h
   refine yy (yh (Wp.seq (Wp.seq ?_)))
   rcases ifS h with ⟨g8,h⟩ | ⟨g8,h⟩
   .refine yy (yh ?_)
    exact yad [.kill [3,40]] (zod (l:=l) zhq h)
   .refine yy (yh ?_)
    exact yad [.kill [3,40]] (zod (l:=l) zhq h)
  .replace h:=ybd h; subst h
   refine yao (Wp.out (yjp (yhp (yfh (yh (Wp.seq ?_))))))
   refine yy (yh (Wp.ret ?_))
   exact yce
theorem zsi{l:yag}{r:Int}:∀ (n:Nat),zlw l (zcz l n) r:=by
  intro n
  induction n with
  | zero=>intro term v39 h; unfold zcz at h; cases h
  | succ n ih=>intro term v39 h; unfold zcz at h; exact zra ih h
theorem zhl{l:yag}{v32:Bool}{r:Int} (h:zcy l v32=some r):Wp Pg 55 0 (.cond (.t 32) (.seq (.reg none ybmw) .ret) .skip) ⟨[(0,.bad),(1,.ptr 0 0),(2,.bad),(3,.bad),(5,.bad),(32,.bool v32),(37,.bad),(38,.bad),(39,.bad),(40,.bad),(51,.bad)],[],[(0,.box [.int .i64 l.yn,.int .i64 l.yv,sl yk.c l.yi])],1⟩ (ybu Pg 55 0 (.seq (.reg none ybmx) (.seq (.seq (.reg none ybmy) (.block 0 (.loop yxj))) (.seq (.reg none yxk) .ret))) (yaki r)):=by
  unfold zcy at h
  rcases ifS h with ⟨g5,h⟩ | ⟨g5,h⟩
  .replace h:=ybd h; subst h
   refine yaq (Wp.seq ?_)
   refine yy (yh (Wp.ret (yde ?_)))
   exact yce
  .refine yao (Wp.skip (yh (Wp.seq ?_)))
   refine yy (yh (Wp.seq (Wp.seq ?_)))
   refine yy (yh (Wp.block (Wp.loop ?_)))
   exact ydb [.kill [1,32],.tidy] (zsi _ h)
theorem ztp{l:yag}{r:Int} (h:zlc l=some r):yap Pg 33 [.agg [.int .i64 l.yn,.int .i64 l.yv,sl yk.c l.yi]] [] 0 (.int .i64 r) [] 0:=by
  refine yap.intro Try.func33 ybnb (yal rfl) ?_
  show Wp Pg 55 0 ybee ⟨yaz _ ybef,[],_,_⟩ (yaki r)
  unfold zlc at h
  unfold ybee
  refine ybc [] ?_
  refine Wp.seq (yy (yh (Wp.seq (Wp.seq ?_))))
  rcases ifS h with ⟨g1,h⟩ | ⟨g1,h⟩
  .refine yy (yh ?_)
   exact yad [.kill [0,2,3,5,37,38,39,40,51]] (zhl h)
  .rcases ifS h with ⟨g2,h⟩ | ⟨g2,h⟩
   .refine yy (yh ?_)
    exact yad [.kill [0,2,3,5,37,38,39,40,51]] (zhl h)
   .rcases ifS h with ⟨g3,h⟩ | ⟨g3,h⟩
    .refine yy (yh ?_)
     exact yad [.kill [0,2,3,5,37,38,39,40,51]] (zhl h)
    .rcases ifS h with ⟨g4,h⟩ | ⟨g4,h⟩
     .refine yy (yh ?_)
      exact yad [.kill [0,2,3,5,37,38,39,40,51]] (zhl h)
     .refine yy (yh ?_)
      exact yad [.kill [0,2,3,5,37,38,39,40,51]] (zhl h)
abbrev yccw(r:(ye × Int)):Ex->St->Prop:=ycb 0 [.cell 12 true 16,.tmp 13] (.tup [.agg [.int .i64 r.1.Id,.int .i64 r.1.N,.int .i64 r.1.yc,.int .i64 r.1.yan,.int .i64 r.1.ym,.int .i64 r.1.yak,.int .i64 r.1.yg.yn,.int .i64 r.1.yg.yv,sl yk.c r.1.yg.yi,.int .i64 r.1.yl,sl (ci .u8) r.1.yaf,sl cb r.1.yq,sl (ci .i64) r.1.Next,sl (ci .i64) r.1.yaa,.int .i64 r.1.yu,.int .i64 r.1.yam],.int .i64 r.2]) [] 0
theorem zeq{term vote:Int}{l:yag}{snap:(List Int)}{r0:(ye × Int)}{v27:Bool}{r:(ye × Int)} (h:zbc term vote l snap r0 v27=some r):Wp Pg 69 0 (.cond (.t 27) (.seq (.reg none yblm) .ret) .skip) ⟨[(0,.bad),(1,.bad),(2,.int .i64 term),(3,.int .i64 vote),(4,.bad),(5,sl (ci .u8) snap),(10,.ptr 0 0),(12,.ptr 1 0),(13,.bad),(14,.ptr 2 0),(15,.bad),(22,.bad),(27,.bool v27)],[],(hs10 r0.1 l.yn l.yv l.yi (0:Int) (0:Int) (0:Int) (0:Int) (0:Int) (0:Int) (0:Int) (0:Int) (0:Int) (0:Int) (0:Int)),3⟩ (yay 0 (ybu Pg 69 0 (.seq (.reg (some [(3,5),(5,7),(5,9),(5,11),(5,13)]) ybln) (.seq (.reg none yblo) .ret)) (yccw r))):=by
  unfold zbc at h
  rcases ifS h with ⟨g10,h⟩ | ⟨g10,h⟩
  .replace h:=ybd h; subst h
   refine yaq (Wp.seq ?_)
   refine yy (yh ?_)
   refine ybc [.cell 12 8 .frz,.cell 12 10 .frz,.cell 12 11 .frz,.cell 12 12 .frz,.cell 12 13 .frz] (Wp.ret (yfd (yde ?_)))
   exact yce
  .refine yao (Wp.skip (ycm (yh (Wp.seq ?_))))
   obtain ⟨r0_3,g11,h⟩:=yah h
   obtain ⟨g12,h⟩:=ygn h
   replace h:=ybd h; subst h
   refine yav [34] yau (ydi 3 (yz (zhh g11) (yp _)) (ybh _)) (yh (Wp.seq ?_))
   refine yy (yh ?_)
   refine ybc [.cell 12 8 .frz,.cell 12 10 .frz] (Wp.ret ?_)
   exact yce
theorem zss{id:Int}{n0:Int}{term:Int}{vote:Int}{l:yag}{snap:(List Int)}{r:(ye × Int)} (h:zie id n0 term vote l snap=some r):yap Pg 13 [.int .i64 id,.int .i64 n0,.int .i64 term,.int .i64 vote,.agg [.int .i64 l.yn,.int .i64 l.yv,sl yk.c l.yi],sl (ci .u8) snap] [] 0 (.tup [.agg [.int .i64 r.1.Id,.int .i64 r.1.N,.int .i64 r.1.yc,.int .i64 r.1.yan,.int .i64 r.1.ym,.int .i64 r.1.yak,.int .i64 r.1.yg.yn,.int .i64 r.1.yg.yv,sl yk.c r.1.yg.yi,.int .i64 r.1.yl,sl (ci .u8) r.1.yaf,sl cb r.1.yq,sl (ci .i64) r.1.Next,sl (ci .i64) r.1.yaa,.int .i64 r.1.yu,.int .i64 r.1.yam],.int .i64 r.2]) [] 0:=by
  refine yap.intro Try.func13 yblp (yal rfl) ?_
  show Wp Pg 69 0 ybda ⟨yaz _ ybdb,[],_,_⟩ (yccw r)
  unfold zie at h
  unfold ybda
  refine ybc [] ?_
  refine Wp.seq (yy (yh (Wp.seq (Wp.reg ?_))))
  obtain ⟨r0,g1,h⟩:=yah h
  refine ybw 3 (yz (zry g1) (yp _)) ?_
  refine ybo (yp _) (yh (Wp.seq (Wp.block (Wp.seq ?_))))
  refine yy (yh ?_)
  rcases ifS h with ⟨g2,h⟩ | ⟨g2,h⟩
  .replace h:=ybd h; subst h
   refine yaq (Wp.seq ?_)
   refine yy (yh ?_)
   refine ybc [.cell 12 8 .frz,.cell 12 10 .frz,.cell 12 11 .frz,.cell 12 12 .frz,.cell 12 13 .frz] (Wp.ret (yfd (yde ?_)))
   exact yce
  .refine yao (Wp.seq (Wp.reg ?_))
   rcases ifS h with ⟨g3,h⟩ | ⟨g3,h⟩
   .refine ybo (yp _) (yh ?_)
    exact yad [.kill [0,1,4,13,15,22],.tidy] (zeq h)
   .rcases ifS h with ⟨g4,h⟩ | ⟨g4,h⟩
    .refine ybo (yp _) (yh ?_)
     exact yad [.kill [0,1,4,13,15,22],.tidy] (zeq h)
    .rcases ifS h with ⟨g5,h⟩ | ⟨g5,h⟩
     .refine ybo (yp _) (yh ?_)
      exact yad [.kill [0,1,4,13,15,22],.tidy] (zeq h)
     .rcases ifS h with ⟨g6,h⟩ | ⟨g6,h⟩
      .refine ybo (yp _) (yh ?_)
       exact yad [.kill [0,1,4,13,15,22],.tidy] (zeq h)
      .obtain ⟨r0_1,g7,h⟩:=yah h
       refine ybw 18 (yz (zjm g7) (yp _)) ?_
       rcases ifS h with ⟨g8,h⟩ | ⟨g8,h⟩
       .refine ybo (yp _) (yh ?_)
        exact yad [.kill [0,1,4,13,15,22],.tidy] (zeq h)
       .obtain ⟨r0_2,g9,h⟩:=yah h
        refine ybw 6 (yz (ztp g9) (yp _)) ?_
        refine ybo (yp _) (yh ?_)
        exact yad [.kill [0,1,4,13,15,22],.tidy] (zeq h)
abbrev ybhr(r:Bool):Ex->St->Prop:=ycb 0 [.tmp 2] (.bool r) [] 0
abbrev zne(l:(List TOp))(rec0:Int->Option Bool)(r:Bool):Prop:=∀ {i:Int},rec0 i=some r->LWp Pg 20 0 yaiu ⟨[(0,sl TOp.c l),(2,.bad),(3,.int .i64 i),(6,.bad),(10,.bad),(19,.bad)],[],[],0⟩ (yay 0 (ybu Pg 20 0 (.seq (.reg none yaso) .ret) (ybhr r)))
theorem zqs{l:(List TOp)}{r:Bool} {zhz:Int->Option Bool}(zqb:zne l zhz r){i:Int}(h:zgu l zhz i=some r):LWp Pg 20 0 yaiu ⟨[(0,sl TOp.c l),(2,.bad),(3,.int .i64 i),(6,.bad),(10,.bad),(19,.bad)],[],[],0⟩ (yay 0 (ybu Pg 20 0 (.seq (.reg none yaso) .ret) (ybhr r))):=by
  unfold zgu at h
  refine LWp.stepC yaiu.eq_1 ?_
  refine Wp.seq (Wp.seq (yy (yh ?_)))
  rcases ifS h with ⟨g2,h⟩ | ⟨g2,h⟩
  .refine yaq (Wp.skip (yh (Wp.seq (Wp.block (Wp.seq ?_)))))
   obtain ⟨e,g3,h⟩:=yah h
   refine yy (yh ?_)
   rcases ifS h with ⟨g4,h⟩ | ⟨g4,h⟩
   .replace h:=ybd h; subst h
    refine yaq (Wp.seq ?_)
    refine yy (yh (Wp.ret (yfd (yde (yadm (yfd (yde ?_)))))))
    exact yce
   .refine yao (Wp.skip (ycm (yh ?_)))
    refine yy (yho ?_)
    exact ydb [.kill [10,19]] (zqb h)
  .replace h:=ybd h; subst h
   refine yao (Wp.out (yjp (yhp (yfh (yh (Wp.seq ?_))))))
   refine yy (yh (Wp.ret ?_))
   exact yce
theorem zru{l:(List TOp)}{r:Bool}:∀ (n:Nat),zne l (zdp l n) r:=by
  intro n
  induction n with
  | zero=>intro i h; unfold zdp at h; cases h
  | succ n ih=>intro i h; unfold zdp at h; exact zqs ih h
theorem ztj{l:(List TOp)}{r:Bool} (h:zkg l=some r):yap Pg 17 [sl TOp.c l] [] 0 (.bool r) [] 0:=by
  refine yap.intro Try.func17 yblq (yal rfl) ?_
  show Wp Pg 20 0 ybdc ⟨yaz _ ybdd,[],_,_⟩ (ybhr r)
  unfold zkg at h
  unfold ybdc
  refine ybc [] ?_
  refine Wp.seq (yy (yh (Wp.seq (Wp.seq ?_))))
  refine yy (yh ?_)
  rcases ifS h with ⟨g1,h⟩ | ⟨g1,h⟩
  .replace h:=ybd h; subst h
   refine yaq (Wp.seq ?_)
   refine yy (yh (Wp.ret (yde ?_)))
   exact yce
  .refine yao (Wp.skip (yh (Wp.seq (Wp.seq ?_))))
   refine yy (yh (Wp.block (Wp.loop ?_)))
   exact ydb [.kill [2,6,10,19]] (zru _ h)
abbrev ybhs(r:yab):Ex->St->Prop:=ycb 0 [.cell 2 true 2] (.agg [sl ye.c r.R,sl yj.c r.Net]) [] 0
abbrev znc(n0:Int)(rec0:Int->(List ye)->Option yab)(r:yab):Prop:=∀ {i:Int} {w_00:(List ye)},rec0 i w_00=some r->LWp Pg 26 0 yaiv ⟨[(0,.int .i64 n0),(2,.ptr 0 0),(3,.ptr 1 0),(4,.int .i64 i),(5,.bad),(10,.bad)],[],[(0,.box [.nil,.nil]),(1,.box [.own 16 2 0 w_00.length false,.nil]),(2,.arr 16 (List.map ye.c w_00) 0)],3⟩ (yay 0 (ybu Pg 26 0 (.seq (.reg none yasp) .ret) (ybhs r)))
theorem zqp{n0:Int}{r:yab} {zhx:Int->(List ye)->Option yab}(zpz:znc n0 zhx r){i:Int}{w_00:(List ye)}(h:zgr n0 zhx i w_00=some r):LWp Pg 26 0 yaiv ⟨[(0,.int .i64 n0),(2,.ptr 0 0),(3,.ptr 1 0),(4,.int .i64 i),(5,.bad),(10,.bad)],[],[(0,.box [.nil,.nil]),(1,.box [.own 16 2 0 w_00.length false,.nil]),(2,.arr 16 (List.map ye.c w_00) 0)],3⟩ (yay 0 (ybu Pg 26 0 (.seq (.reg none yasp) .ret) (ybhs r))):=by
  unfold zgr at h
  refine LWp.stepC yaiv.eq_1 ?_
  refine Wp.seq (Wp.seq (yy (yh ?_)))
  rcases ifS h with ⟨g1,h⟩ | ⟨g1,h⟩
  .refine yaq (Wp.skip (yh (Wp.seq (Wp.block (Wp.seq (Wp.reg ?_))))))
   obtain ⟨r0,g2,h⟩:=yah h
   refine ybw 3 (yz (zry g2) (yp _)) ?_
   refine ybo (yp _) (yh ?_)
   obtain ⟨g3,h⟩:=ygn h
   refine yy (ycm (yh ?_))
   refine yy (yho ?_)
   exact ydb [.kill [5,10],.tidy] (zpz h)
  .replace h:=ybd h; subst h
   refine yao (Wp.out (yjp (yhp (yfh (yh (Wp.seq ?_))))))
   refine yy (yh ?_)
   refine ybc [.cell 2 0 .frz,.cell 2 1 .frz] (Wp.ret ?_)
   exact yce
theorem zrr{n0:Int}{r:yab}:∀ (n:Nat),znc n0 (zdj n0 n) r:=by
  intro n
  induction n with
  | zero=>intro i w_00 h; unfold zdj at h; cases h
  | succ n ih=>intro i w_00 h; unfold zdj at h; exact zqp ih h
theorem zth{n0:Int}{r:yab} (h:zkf n0=some r):yap Pg 18 [.int .i64 n0] [] 0 (.agg [sl ye.c r.R,sl yj.c r.Net]) [] 0:=by
  refine yap.intro Try.func18 yblr (yal rfl) ?_
  show Wp Pg 26 0 ybde ⟨yaz _ ybdf,[],_,_⟩ (ybhs r)
  unfold zkf at h
  unfold ybde
  refine ybc [] ?_
  refine Wp.seq (yy (yh (Wp.seq ?_)))
  refine yy (yh (Wp.seq (Wp.seq ?_)))
  refine yy (yh (Wp.block (Wp.loop ?_)))
  exact ydb [.kill [5,10],.cell 3 0 (.virt 16),.tidy] (zrr _ h)
abbrev ydkj(r:Int):Ex->St->Prop:=ycb 0 [.tmp 2] (.int .i64 r) [] 0
theorem ztn{n0:Int}{r:Int} (h:zlb n0=some r):yap Pg 19 [.int .u8 n0] [] 0 (.int .i64 r) [] 0:=by
  refine yap.intro Try.func19 ybls (yal rfl) ?_
  show Wp Pg 7 0 ybdg ⟨yaz _ ybdh,[],_,_⟩ (ydkj r)
  unfold zlb at h
  unfold ybdg
  refine ybc [] ?_
  replace h:=ybd h; subst h
  refine Wp.seq (yy (yh (Wp.seq ?_)))
  refine yy (yh (Wp.ret ?_))
  exact yce
abbrev yapv(r:(ye × (List yj))):Ex->St->Prop:=ycb 0 [.cell 4 true 16,.tmp 5] (.tup [.agg [.int .i64 r.1.Id,.int .i64 r.1.N,.int .i64 r.1.yc,.int .i64 r.1.yan,.int .i64 r.1.ym,.int .i64 r.1.yak,.int .i64 r.1.yg.yn,.int .i64 r.1.yg.yv,sl yk.c r.1.yg.yi,.int .i64 r.1.yl,sl (ci .u8) r.1.yaf,sl cb r.1.yq,sl (ci .i64) r.1.Next,sl (ci .i64) r.1.yaa,.int .i64 r.1.yu,.int .i64 r.1.yam],sl yj.c r.2]) [] 0
theorem zmh{m_00 m_10 m_20 m_30 m_40 m_50 m_60 m_70:Int}{m_80:(List yk)}{m_90 ze zh:Int}{zd:(List Int)}{zf:(List Bool)}{zb zg:(List Int)}{zi:(List yj)}{r:(ye × (List yj))} (h:zjv m_00 m_10 m_20 m_30 m_40 m_50 m_60 m_70 m_80 m_90 ze zh zd zf zb zg zi=some r):Wp Pg 68 0 (.seq (.reg none yaiy) .ret) ⟨[(0,.bad),(1,.bad),(2,.bad),(4,.ptr 0 0),(5,.bad),(6,.ptr 1 0),(18,.bad),(41,.bad)],[],(hp95 (0:Int) (0:Int) (0:Int) (0:Int) (0:Int) (0:Int) (0:Int) (0:Int) (0:Int) (0:Int) (0:Int) m_00 m_10 m_20 m_30 m_40 m_50 m_60 m_70 m_80 m_90 zd zf zb zg ze zh zi),7⟩ (yapv r):=by
  unfold zjv at h
  refine Wp.seq (Wp.reg ?_)
  obtain ⟨r0_4,g8,h⟩:=yah h
  replace h:=ybd h; subst h
  refine yjz 2 (yz (zkb g8) (yp _)) ?_
  refine ybo (yp _) (yh ?_)
  refine ybc [.cell 4 10 .frz,.cell 4 11 .frz,.cell 4 12 .frz,.cell 4 13 .frz,.at 5 .frz] (Wp.ret ?_)
  exact yce
theorem zpb{draw:Int}{r0_1:yd}{v41:Bool}{r:(ye × (List yj))} (h:zif draw r0_1 v41=some r):Wp Pg 68 0 (.cond (.t 41) (.reg none yasr) .skip) ⟨[(0,.bad),(1,.int .i64 draw),(2,.bad),(4,.ptr 0 0),(5,.bad),(6,.ptr 1 0),(18,.bad),(41,.bool v41)],[],(hs12 r0_1 (0:Int) (0:Int) (0:Int) (0:Int) (0:Int) (0:Int) (0:Int) (0:Int) (0:Int) (0:Int) (0:Int) (IntKind.i64.wrap (r0_1.yb.yu + (1:Int)))),8⟩ (yay 0 (ybu Pg 68 0 (.seq (.reg none yaiy) .ret) (yapv r))):=by
  unfold zif at h
  rcases ifS h with ⟨g6,h⟩ | ⟨g6,h⟩
  .refine yaq (Wp.reg ?_)
   obtain ⟨r0_3,g7,h⟩:=yah h
   refine yed (yz (zre g7) (yp _)) (ycm (yh ?_))
   exact yad [.kill [1,41],.tidy] (zmh h)
  .refine yao (Wp.skip (ycm (yh ?_)))
   exact yad [.kill [1,41],.cell 6 8 .frz,.tidy] (zmh h)
theorem zpa{draw:Int}{r0_1:yd}{v18:Bool}{r:(ye × (List yj))} (h:zju draw r0_1 v18=some r):Wp Pg 68 0 (.cond (.t 18) (.seq (.reg none ybmi) (.reg none ybmj)) (.seq (.reg (some []) ybmk) (.cond (.t 41) (.reg none yasr) .skip))) ⟨[(0,.bad),(1,.int .i64 draw),(2,.bad),(4,.ptr 0 0),(5,.bad),(6,.ptr 1 0),(18,.bool v18),(41,.bad)],[],(hs12 r0_1 (0:Int) (0:Int) (0:Int) (0:Int) (0:Int) (0:Int) (0:Int) (0:Int) (0:Int) (0:Int) (0:Int) (IntKind.i64.wrap (r0_1.yb.yu + (1:Int)))),8⟩ (yay 0 (ybu Pg 68 0 (.seq (.reg none yaiy) .ret) (yapv r))):=by
  unfold zju at h
  rcases ifS h with ⟨g3,h⟩ | ⟨g3,h⟩
  .refine yaq (Wp.seq ?_)
   refine yy (yh (Wp.reg ?_))
   obtain ⟨r0_2,g4,h⟩:=yah h
   refine yed (yz (zrd g4) (yp _)) (ycm (yh ?_))
   exact yad [.kill [1,18],.tidy] (zmh h)
  .refine yao (Wp.seq ?_)
   rcases ifS h with ⟨g5,h⟩ | ⟨g5,h⟩
   .refine yav [] yau (ybh _) (yh ?_)
    exact yad [.kill [18],.tidy] (zpb h)
   .refine yav [] yau (ybh _) (yh ?_)
    exact yad [.kill [18],.tidy] (zpb h)
theorem zts{r0:ye}{draw:Int}{r:(ye × (List yj))} (h:zly r0 draw=some r):yap Pg 28 [.agg [.int .i64 r0.Id,.int .i64 r0.N,.int .i64 r0.yc,.int .i64 r0.yan,.int .i64 r0.ym,.int .i64 r0.yak,.int .i64 r0.yg.yn,.int .i64 r0.yg.yv,sl yk.c r0.yg.yi,.int .i64 r0.yl,sl (ci .u8) r0.yaf,sl cb r0.yq,sl (ci .i64) r0.Next,sl (ci .i64) r0.yaa,.int .i64 r0.yu,.int .i64 r0.yam],.int .i64 draw] [] 0 (.tup [.agg [.int .i64 r.1.Id,.int .i64 r.1.N,.int .i64 r.1.yc,.int .i64 r.1.yan,.int .i64 r.1.ym,.int .i64 r.1.yak,.int .i64 r.1.yg.yn,.int .i64 r.1.yg.yv,sl yk.c r.1.yg.yi,.int .i64 r.1.yl,sl (ci .u8) r.1.yaf,sl cb r.1.yq,sl (ci .i64) r.1.Next,sl (ci .i64) r.1.yaa,.int .i64 r.1.yu,.int .i64 r.1.yam],sl yj.c r.2]) [] 0:=by
  refine yap.intro Try.func28 ybml (yal rfl) ?_
  show Wp Pg 68 0 ybdu ⟨yaz _ ybdv,[],_,_⟩ (yapv r)
  unfold zly at h
  unfold ybdu
  refine ybc [] ?_
  refine Wp.seq (yy (yh (Wp.seq (Wp.reg ?_))))
  obtain ⟨r0_1,g1,h⟩:=yah h
  refine yjz 2 (yz (znb g1) (yp _)) ?_
  refine ybo (yp _) (yh (Wp.seq ?_))
  refine yy (yh (Wp.seq (Wp.block (Wp.seq ?_))))
  rcases ifS h with ⟨g2,h⟩ | ⟨g2,h⟩
  .refine yy (yh ?_)
   exact yad [.kill [0,2,5,41],.tidy] (zpa h)
  .refine yy (yh ?_)
   exact yad [.kill [0,2,5,41],.tidy] (zpa h)
abbrev ydkl(r:(ye × Int × (List yj) × Int)):Ex->St->Prop:=ycb 0 [.cell 4 true 16,.tmp 5,.tmp 6,.tmp 7] (.tup [.agg [.int .i64 r.1.Id,.int .i64 r.1.N,.int .i64 r.1.yc,.int .i64 r.1.yan,.int .i64 r.1.ym,.int .i64 r.1.yak,.int .i64 r.1.yg.yn,.int .i64 r.1.yg.yv,sl yk.c r.1.yg.yi,.int .i64 r.1.yl,sl (ci .u8) r.1.yaf,sl cb r.1.yq,sl (ci .i64) r.1.Next,sl (ci .i64) r.1.yaa,.int .i64 r.1.yu,.int .i64 r.1.yam],.int .i64 r.2.1,sl yj.c r.2.2.1,.int .i64 r.2.2.2]) [] 0
theorem zsq{r0:ye}{data:(List Int)}{r:(ye × Int × (List yj) × Int)} (h:zjs r0 data=some r):yap Pg 29 [.agg [.int .i64 r0.Id,.int .i64 r0.N,.int .i64 r0.yc,.int .i64 r0.yan,.int .i64 r0.ym,.int .i64 r0.yak,.int .i64 r0.yg.yn,.int .i64 r0.yg.yv,sl yk.c r0.yg.yi,.int .i64 r0.yl,sl (ci .u8) r0.yaf,sl cb r0.yq,sl (ci .i64) r0.Next,sl (ci .i64) r0.yaa,.int .i64 r0.yu,.int .i64 r0.yam],sl (ci .u8) data] [] 0 (.tup [.agg [.int .i64 r.1.Id,.int .i64 r.1.N,.int .i64 r.1.yc,.int .i64 r.1.yan,.int .i64 r.1.ym,.int .i64 r.1.yak,.int .i64 r.1.yg.yn,.int .i64 r.1.yg.yv,sl yk.c r.1.yg.yi,.int .i64 r.1.yl,sl (ci .u8) r.1.yaf,sl cb r.1.yq,sl (ci .i64) r.1.Next,sl (ci .i64) r.1.yaa,.int .i64 r.1.yu,.int .i64 r.1.yam],.int .i64 r.2.1,sl yj.c r.2.2.1,.int .i64 r.2.2.2]) [] 0:=by
  refine yap.intro Try.func29 ybmm (yal rfl) ?_
  show Wp Pg 36 0 ybdw ⟨yaz _ ybdx,[],_,_⟩ (ydkl r)
  unfold zjs at h
  unfold ybdw
  refine ybc [] ?_
  refine Wp.seq (yy (yh (Wp.seq (Wp.reg ?_))))
  obtain ⟨r0_1,g1,h⟩:=yah h
  refine yjz 2 (yz (znb g1) (yp _)) ?_
  refine ybo (yp _) (yh (Wp.seq (Wp.seq ?_)))
  refine yy (yh ?_)
  rcases ifS h with ⟨g2,h⟩ | ⟨g2,h⟩
  .replace h:=ybd h; subst h
   refine yaq (Wp.seq ?_)
   refine yy (yh ?_)
   refine ybc [.cell 4 8 .frz,.cell 4 10 .frz,.cell 4 11 .frz,.cell 4 12 .frz,.cell 4 13 .frz,.at 6 .frz] (Wp.ret (yde ?_))
   exact yce
  .refine yao (Wp.skip (yh (Wp.seq (Wp.reg ?_))))
   obtain ⟨r0_2,g3,h⟩:=yah h
   refine yed (yz (zol g3) (yp _)) (yh (Wp.seq (Wp.reg ?_)))
   obtain ⟨r0_3,g4,h⟩:=yah h
   refine yjz 2 (yz (zkb g4) (yp _)) ?_
   refine ybo (yp _) (yh (Wp.seq ?_))
   obtain ⟨r0_4,g5,h⟩:=yah h
   replace h:=ybd h; subst h
   refine yav [] yau (ydi 3 (yz (zbk g5) (yp _)) (ybh _)) (yh ?_)
   refine ybc [.cell 4 10 .frz,.cell 4 11 .frz,.cell 4 12 .frz,.cell 4 13 .frz,.at 6 .frz] (Wp.ret ?_)
   exact yce
abbrev yccy(r:(ye × Int)):Ex->St->Prop:=ycb 0 [.cell 6 true 16,.tmp 7] (.tup [.agg [.int .i64 r.1.Id,.int .i64 r.1.N,.int .i64 r.1.yc,.int .i64 r.1.yan,.int .i64 r.1.ym,.int .i64 r.1.yak,.int .i64 r.1.yg.yn,.int .i64 r.1.yg.yv,sl yk.c r.1.yg.yi,.int .i64 r.1.yl,sl (ci .u8) r.1.yaf,sl cb r.1.yq,sl (ci .i64) r.1.Next,sl (ci .i64) r.1.yaa,.int .i64 r.1.yu,.int .i64 r.1.yam],.int .i64 r.2]) [] 0
theorem zmv{upto:Int}{snap:(List Int)}{r0_1:yd}{v29:Bool}{r:(ye × Int)} (h:zfx upto snap r0_1 v29=some r):Wp Pg 66 0 (.cond (.t 29) (.seq (.reg none ybmn) .ret) .skip) ⟨[(0,.bad),(1,.int .i64 upto),(2,sl (ci .u8) snap),(3,.bad),(6,.ptr 0 0),(7,.bad),(8,.ptr 1 0),(9,.bad),(10,.bad),(29,.bool v29),(45,.bad)],[],(zub r0_1 (0:Int) (0:Int) (0:Int) (0:Int) (0:Int) (0:Int) (0:Int) (0:Int) (0:Int) (0:Int) (0:Int)),8⟩ (ybu Pg 66 0 (.seq (.reg none ybmo) (.seq (.seq (.reg none ybmp) (.cond (.t 45) (.seq (.reg none ybmq) .ret) .skip)) (.seq (.reg (some [(2,4)]) ybmr) (.seq (.reg none ybms) .ret)))) (yccy r)):=by
  unfold zfx at h
  rcases ifS h with ⟨g3,h⟩ | ⟨g3,h⟩
  .replace h:=ybd h; subst h
   refine yaq (Wp.seq ?_)
   refine yy (yh ?_)
   refine ybc [.cell 6 8 .frz,.cell 6 10 .frz,.cell 6 11 .frz,.cell 6 12 .frz,.cell 6 13 .frz] (Wp.ret (yde ?_))
   exact yce
  .refine yao (Wp.skip (yh (Wp.seq (Wp.reg ?_))))
   obtain ⟨r0_2,g4,h⟩:=yah h
   refine ybw 7 (yz (zoy g4) (yp _)) ?_
   refine ybo (yp _) (yh (Wp.seq (Wp.seq ?_)))
   refine yy (yh ?_)
   rcases ifS h with ⟨g5,h⟩ | ⟨g5,h⟩
   .replace h:=ybd h; subst h
    refine yaq (Wp.seq ?_)
    refine yy (yh ?_)
    refine ybc [.cell 6 8 .frz,.cell 6 10 .frz,.cell 6 11 .frz,.cell 6 12 .frz,.cell 6 13 .frz] (Wp.ret (yde ?_))
    exact yce
   .refine yao (Wp.skip (yh (Wp.seq ?_)))
    obtain ⟨g6,h⟩:=ygn h
    replace h:=ybd h; subst h
    refine yav [] yau (ybh _) (yh (Wp.seq ?_))
    refine yy (yh ?_)
    refine ybc [.cell 6 10 .frz,.cell 6 11 .frz,.cell 6 12 .frz,.cell 6 13 .frz] (Wp.ret ?_)
    exact yce
theorem zsp{r0:ye}{upto:Int}{snap:(List Int)}{r:(ye × Int)} (h:zjr r0 upto snap=some r):yap Pg 30 [.agg [.int .i64 r0.Id,.int .i64 r0.N,.int .i64 r0.yc,.int .i64 r0.yan,.int .i64 r0.ym,.int .i64 r0.yak,.int .i64 r0.yg.yn,.int .i64 r0.yg.yv,sl yk.c r0.yg.yi,.int .i64 r0.yl,sl (ci .u8) r0.yaf,sl cb r0.yq,sl (ci .i64) r0.Next,sl (ci .i64) r0.yaa,.int .i64 r0.yu,.int .i64 r0.yam],.int .i64 upto,sl (ci .u8) snap] [] 0 (.tup [.agg [.int .i64 r.1.Id,.int .i64 r.1.N,.int .i64 r.1.yc,.int .i64 r.1.yan,.int .i64 r.1.ym,.int .i64 r.1.yak,.int .i64 r.1.yg.yn,.int .i64 r.1.yg.yv,sl yk.c r.1.yg.yi,.int .i64 r.1.yl,sl (ci .u8) r.1.yaf,sl cb r.1.yq,sl (ci .i64) r.1.Next,sl (ci .i64) r.1.yaa,.int .i64 r.1.yu,.int .i64 r.1.yam],.int .i64 r.2]) [] 0:=by
  refine yap.intro Try.func30 ybmt (yal rfl) ?_
  show Wp Pg 66 0 ybdy ⟨yaz _ ybdz,[],_,_⟩ (yccy r)
  unfold zjr at h
  unfold ybdy
  refine ybc [] ?_
  refine Wp.seq (yy (yh (Wp.seq (Wp.reg ?_))))
  obtain ⟨r0_1,g1,h⟩:=yah h
  refine yjz 2 (yz (znb g1) (yp _)) ?_
  refine ybo (yp _) (yh (Wp.seq (Wp.seq ?_)))
  rcases ifS h with ⟨g2,h⟩ | ⟨g2,h⟩
  .refine yy (yh ?_)
   exact yad [.kill [0,3,7,9,10,45],.tidy] (zmv h)
  .refine yy (yh ?_)
   exact yad [.kill [0,3,7,9,10,45],.tidy] (zmv h)
abbrev ydkn(r:Int):Ex->St->Prop:=ycb 0 [.tmp 4] (.int .i64 r) [] 0
theorem zmx{k:Int}{n0:Int}{r:Int} (h:zdq k n0=some r):yap Pg 45 [.int .i64 k,.int .i64 n0] [] 0 (.int .i64 r) [] 0:=by
  refine yap.intro Try.func45 ybnd (yal rfl) ?_
  show Wp Pg 11 0 ybei ⟨yaz _ ybej,[],_,_⟩ (ydkn r)
  unfold zdq at h
  unfold ybei
  refine ybc [] ?_
  refine Wp.seq (yy (yh (Wp.seq ?_)))
  obtain ⟨g1,h⟩:=reqF h
  replace h:=ybd h; subst h
  refine yy (yh (Wp.ret ?_))
  exact yce
abbrev ydko(r:yab):Ex->St->Prop:=ycb 0 [.cell 8 true 2] (.agg [sl ye.c r.R,sl yj.c r.Net]) [] 0
theorem zkj{w:yab}{i:Int}{r0:ye}{l:(List yj)}{r:yab} (h:zfo w i r0 l=some r):yap Pg 46 [.agg [sl ye.c w.R,sl yj.c w.Net],.int .i64 i,.agg [.int .i64 r0.Id,.int .i64 r0.N,.int .i64 r0.yc,.int .i64 r0.yan,.int .i64 r0.ym,.int .i64 r0.yak,.int .i64 r0.yg.yn,.int .i64 r0.yg.yv,sl yk.c r0.yg.yi,.int .i64 r0.yl,sl (ci .u8) r0.yaf,sl cb r0.yq,sl (ci .i64) r0.Next,sl (ci .i64) r0.yaa,.int .i64 r0.yu,.int .i64 r0.yam],sl yj.c l] [] 0 (.agg [sl ye.c r.R,sl yj.c r.Net]) [] 0:=by
  refine yap.intro Try.func46 ybne (yal rfl) ?_
  show Wp Pg 46 0 ybek ⟨yaz _ ybel,[],_,_⟩ (ydko r)
  unfold zfo at h
  unfold ybek
  refine ybc [] ?_
  refine Wp.seq (yy (yh (Wp.seq ?_)))
  refine yy (yh (Wp.seq ?_))
  obtain ⟨g1,h⟩:=ygn h
  refine yy (yh (Wp.seq ?_))
  obtain ⟨e,g2,h⟩:=yah h
  have:=yek (n:=16) (id:=4) (ex:=false) (k:=.i64) g2 rfl
  have:=ygq (c:=ye.c) g2
  have:=ylc ye.c w.R i r0
  try simp only [EV,EVt, *] at this
  refine yy (yh (Wp.seq ?_))
  obtain ⟨g3,h⟩:=ygn h
  refine yy (yh (Wp.seq ?_))
  obtain ⟨g4,h⟩:=ygn h
  refine yy (yh (Wp.seq (Wp.seq ?_)))
  refine yy (yh ?_)
  rcases ifS h with ⟨g5,h⟩ | ⟨g5,h⟩
  .refine yaq ?_
   obtain ⟨l_1,g6,h⟩:=yah h
   replace h:=ybd h; subst h
   have:=ycav (n:=11) (id:=6) (k:=.i64) g6
   try simp only [EV,EVt, *] at this
   have:=ycfi (c:=yj.c) g6
   try simp only [EV,EVt, *] at this
   refine yy (yh (Wp.seq ?_))
   refine yy (yh ?_)
   refine ybc [.cell 8 0 .frz,.cell 8 1 .frz] (Wp.ret ?_)
   exact yce
  .replace h:=ybd h; subst h
   refine yao (Wp.skip (yh (Wp.seq ?_)))
   refine yy (yh ?_)
   refine ybc [.cell 8 0 .frz,.cell 8 1 .frz] (Wp.ret ?_)
   exact yce
abbrev yccz(r:(yab × yj)):Ex->St->Prop:=ycb 0 [.cell 6 true 2,.cell 7 true 11] (.tup [.agg [sl ye.c r.1.R,sl yj.c r.1.Net],.agg [.int .i64 r.2.yae,.int .i64 r.2.yhn,.int .i64 r.2.From,.int .i64 r.2.To,.int .i64 r.2.yc,.int .i64 r.2.At,.int .i64 r.2.ybf,.int .i64 r.2.yl,.bool r.2.Ok,sl yk.c r.2.yi,sl (ci .u8) r.2.yck]]) [] 0
theorem zoc{w:yab}{k:Int}{e:yj}{out_1:(List yj)}{r:(yab × yj)} (h:zgz w k e out_1=some r):Wp Pg 44 0 (.seq (.reg (some []) ybnf) (.seq (.reg (some [(1,2)]) ybng) .ret)) ⟨[(0,.bad),(1,.int .i64 k),(2,.bad),(3,.ptr 0 0),(6,.ptr 1 0),(7,.ptr 2 0),(8,.ptr 3 0),(9,.ptr 4 0),(26,.bad)],[],(zuc e w.R w.Net (0:Int) (0:Int) (0:Int) (0:Int) (0:Int) (0:Int) (0:Int) (0:Int) w.R out_1),6⟩ (yccz r):=by
  unfold zgz at h
  refine Wp.seq ?_
  obtain ⟨l_1,g6,h⟩:=yah h
  obtain ⟨g7,h⟩:=ygn h
  replace h:=ybd h; subst h
  refine yav [] yau (ybh _) (yh (Wp.seq ?_))
  refine yav [] yau (ybh _) (yh ?_)
  refine ybc [.cell 6 1 .frz] (Wp.ret ?_)
  exact yce
theorem zto{w:yab}{k:Int}{keep:Bool}{r:(yab × yj)} (h:zjo w k keep=some r):yap Pg 47 [.agg [sl ye.c w.R,sl yj.c w.Net],.int .i64 k,.bool keep] [] 0 (.tup [.agg [sl ye.c r.1.R,sl yj.c r.1.Net],.agg [.int .i64 r.2.yae,.int .i64 r.2.yhn,.int .i64 r.2.From,.int .i64 r.2.To,.int .i64 r.2.yc,.int .i64 r.2.At,.int .i64 r.2.ybf,.int .i64 r.2.yl,.bool r.2.Ok,sl yk.c r.2.yi,sl (ci .u8) r.2.yck]]) [] 0:=by
  refine yap.intro Try.func47 ybnh (yal rfl) ?_
  show Wp Pg 44 0 ybem ⟨yaz _ yben,[],_,_⟩ (yccz r)
  unfold zjo at h
  unfold ybem
  refine ybc [] ?_
  refine Wp.seq (yy (yh (Wp.seq ?_)))
  obtain ⟨e,g1,h⟩:=yah h
  refine yy (yh (Wp.seq ?_))
  refine yy (yh (Wp.seq ?_))
  obtain ⟨l,g2,h⟩:=yah h
  obtain ⟨g3,h⟩:=ygn h
  refine yav [] yau (ybh _) (yh (Wp.seq (Wp.seq ?_)))
  refine yy (yh ?_)
  rcases ifS h with ⟨g4,h⟩ | ⟨g4,h⟩
  .refine yaq ?_
   obtain ⟨g5,h⟩:=ygn h
   refine yy (yh ?_)
   exact yad [.kill [0,2,26],.tidy] (zoc h)
  .refine yao (Wp.skip (yh ?_))
   exact yad [.kill [0,2,26],.tidy] (zoc h)
abbrev yyx(r:(ye × (List yj))):Ex->St->Prop:=ycb 0 [.cell 4 true 16,.tmp 5] (.tup [.agg [.int .i64 r.1.Id,.int .i64 r.1.N,.int .i64 r.1.yc,.int .i64 r.1.yan,.int .i64 r.1.ym,.int .i64 r.1.yak,.int .i64 r.1.yg.yn,.int .i64 r.1.yg.yv,sl yk.c r.1.yg.yi,.int .i64 r.1.yl,sl (ci .u8) r.1.yaf,sl cb r.1.yq,sl (ci .i64) r.1.Next,sl (ci .i64) r.1.yaa,.int .i64 r.1.yu,.int .i64 r.1.yam],sl yj.c r.2]) [] 0
theorem zaz{zsx zsy zsz zta ztb ztc ztd zte:Int}{ztf:(List yk)}{ztg zse zsf:Int}{zsa:(List Int)}{zsb:(List Bool)}{zsc zsd:(List Int)}{zsg:(List yj)}{r:(ye × (List yj))} (h:zak zsx zsy zsz zta ztb ztc ztd zte ztf ztg zse zsf zsa zsb zsc zsd zsg=some r):Wp Pg 180 0 (.seq (.reg none yrl) .ret) ⟨[(0,.bad),(1,.bad),(2,.bad),(3,.bad),(4,.ptr 0 0),(5,.bad),(6,.ptr 1 0),(56,.bad),(83,.bad),(89,.bad),(90,.bad),(95,.bad),(123,.bad),(126,.bad),(131,.bad),(158,.bad),(161,.bad),(166,.bad),(171,.bad)],[],(hp95 (0:Int) (0:Int) (0:Int) (0:Int) (0:Int) (0:Int) (0:Int) (0:Int) (0:Int) (0:Int) (0:Int) zsx zsy zsz zta ztb ztc ztd zte ztf ztg zsa zsb zsc zsd zse zsf zsg),7⟩ (yyx r):=by
  unfold zak at h
  refine Wp.seq (Wp.reg ?_)
  obtain ⟨r0_13,g39,h⟩:=yah h
  replace h:=ybd h; subst h
  refine yjz 2 (yz (zkb g39) (yp _)) ?_
  refine ybo (yp _) (yh ?_)
  refine ybc [.cell 4 10 .frz,.cell 4 11 .frz,.cell 4 12 .frz,.cell 4 13 .frz,.at 5 .frz] (Wp.ret ?_)
  exact yce
theorem ziu{v158:Bool}{zrg zrh zri zrj zrk zrl zrm zrn zrp zqh zqi:Int}{zro:(List yk)}{zqd:(List Int)}{zqe:(List Bool)}{zqf zqg:(List Int)}{zqj:(List yj)}{r:(ye × (List yj))} (h:zei v158 zrg zrh zri zrj zrk zrl zrm zrn zrp zqh zqi zro zqd zqe zqf zqg zqj=some r):Wp Pg 180 0 (.cond (.t 158) (.reg none yxm) .skip) ⟨[(0,.bad),(1,.bad),(2,.bad),(3,.bad),(4,.ptr 0 0),(5,.bad),(6,.ptr 1 0),(56,.bad),(83,.bad),(89,.bad),(90,.bad),(95,.bad),(123,.bad),(126,.bad),(131,.bad),(158,.bool v158),(161,.bad),(166,.bad),(171,.bad)],[],(hp13 (0:Int) (0:Int) (0:Int) (0:Int) (0:Int) (0:Int) (0:Int) (0:Int) (0:Int) (0:Int) (0:Int) zrg zrh zri zrj zrk zrl zrm zrn zro zrp zqd zqe zqf zqg zqh zqi zqj),8⟩ (yay 0 (ybu Pg 180 0 (.seq (.reg none yrl) .ret) (yyx r))):=by
  unfold zei at h
  rcases ifS h with ⟨g31,h⟩ | ⟨g31,h⟩
  .refine yaq (Wp.reg ?_)
   obtain ⟨r0_9,g32,h⟩:=yah h
   refine yed (yz (zpi g32) (yp _)) (ycm (yh ?_))
   exact yad [.kill [158],.tidy] (zaz h)
  .refine yao (Wp.skip (ycm (yh ?_)))
   exact yad [.kill [158],.cell 6 8 .frz,.tidy] (zaz h)
theorem zit{v123:Bool}{zbo zbp zbq zbr zbs zbt zbu zbv zbx zar zas:Int}{zbw:(List yk)}{zao:(List Int)}{zap:(List Bool)}{zx zaq:(List Int)}{zat:(List yj)}{r:(ye × (List yj))} (h:zcv v123 zbo zbp zbq zbr zbs zbt zbu zbv zbx zar zas zbw zao zap zx zaq zat=some r):Wp Pg 180 0 (.cond (.t 123) (.reg none yxl) .skip) ⟨[(0,.bad),(1,.bad),(2,.bad),(3,.bad),(4,.ptr 0 0),(5,.bad),(6,.ptr 1 0),(56,.bad),(83,.bad),(89,.bad),(90,.bad),(95,.bad),(123,.bool v123),(126,.bad),(131,.bad),(158,.bad),(161,.bad),(166,.bad),(171,.bad)],[],(hp13 (0:Int) (0:Int) (0:Int) (0:Int) (0:Int) (0:Int) (0:Int) (0:Int) (0:Int) (0:Int) (0:Int) zbo zbp zbq zbr zbs zbt zbu zbv zbw zbx zao zap zx zaq zar zas zat),8⟩ (yay 0 (ybu Pg 180 0 (.seq (.reg none yrl) .ret) (yyx r))):=by
  unfold zcv at h
  rcases ifS h with ⟨g22,h⟩ | ⟨g22,h⟩
  .refine yaq (Wp.reg ?_)
   obtain ⟨r0_6,g23,h⟩:=yah h
   refine yed (yz (zpd g23) (yp _)) (ycm (yh ?_))
   exact yad [.kill [123],.tidy] (zaz h)
  .refine yao (Wp.skip (ycm (yh ?_)))
   exact yad [.kill [123],.cell 6 8 .frz,.tidy] (zaz h)
theorem zmw{x0:yj}{m_00 m_10 m_20 m_30 m_40 m_50 m_60 m_70 m_90 ze zh:Int}{m_80:(List yk)}{zd:(List Int)}{zf:(List Bool)}{zb zg:(List Int)}{zi:(List yj)}{r:(ye × (List yj))} (h:zfy x0 m_00 m_10 m_20 m_30 m_40 m_50 m_60 m_70 m_90 ze zh m_80 zd zf zb zg zi=some r):Wp Pg 180 0 (.seq (.seq (.reg none yaiz) (.block 0 (.seq (.reg none yaja) (.cond (.t 90) (.reg none yajb) (.seq (.reg none yajc) (.cond (.t 95) (.seq (.reg (some []) yacz) (.cond (.t 123) (.reg none yxl) .skip)) (.seq (.reg none yada) (.cond (.t 126) (.reg none yadb) (.seq (.reg none yadc) (.cond (.t 131) (.seq (.reg (some []) yadd) (.cond (.t 158) (.reg none yxm) .skip)) (.seq (.reg none yade) (.cond (.t 161) (.reg none yadf) (.seq (.reg none yadg) (.cond (.t 166) (.reg none yadh) (.seq (.reg none yadi) (.cond (.t 171) (.reg none yadj) .skip)))))))))))))))) (.seq (.reg none yrl) .ret)) ⟨[(0,.bad),(1,.bad),(2,.bad),(3,.ptr 0 0),(4,.ptr 1 0),(5,.bad),(6,.ptr 2 0),(56,.bad),(83,.bad),(89,.bad),(90,.bad),(95,.bad),(123,.bad),(126,.bad),(131,.bad),(158,.bad),(161,.bad),(166,.bad),(171,.bad)],[],(zud x0 (0:Int) (0:Int) (0:Int) (0:Int) (0:Int) (0:Int) (0:Int) (0:Int) (0:Int) (0:Int) (0:Int) m_00 m_10 m_20 m_30 m_40 m_50 m_60 m_70 m_80 m_90 zd zf zb zg ze zh zi),9⟩ (yyx r):=by
  unfold zfy at h
  refine Wp.seq (Wp.seq (yy (yh (Wp.block (Wp.seq ?_)))))
  refine yy (yh ?_)
  rcases ifS h with ⟨g15,h⟩ | ⟨g15,h⟩
  .refine yaq (Wp.reg ?_)
   obtain ⟨r0_4,g16,h⟩:=yah h
   refine yed (yz (zqm g16) (yp _)) (ycm (yh ?_))
   exact yad [.kill [3,89,90],.cell 6 8 .frz,.tidy] (zaz h)
  .refine yao (Wp.seq ?_)
   refine yy (yh ?_)
   rcases ifS h with ⟨g17,h⟩ | ⟨g17,h⟩
   .refine yaq (Wp.seq ?_)
    rcases ifS h with ⟨g18,h⟩ | ⟨g18,h⟩
    .rcases ifS h with ⟨g19,h⟩ | ⟨g19,h⟩
     .rcases ifS h with ⟨g20,h⟩ | ⟨g20,h⟩
      .obtain ⟨r0_5,g21,h⟩:=yah h
       refine yav [68] yau (ydi 25 (yz (zlj g21) (yp _)) (ybh _)) (yh ?_)
       exact yad [.kill [3,89,90,95],.tidy] (zit h)
      .refine yav [] yau (ybh _) (yh ?_)
       exact yad [.kill [3,89,90,95],.tidy] (zit h)
     .refine yav [] yau (ybh _) (yh ?_)
      exact yad [.kill [3,89,90,95],.tidy] (zit h)
    .refine yav [] yau (ybh _) (yh ?_)
     exact yad [.kill [3,89,90,95],.tidy] (zit h)
   .refine yao (Wp.seq ?_)
    refine yy (yh ?_)
    rcases ifS h with ⟨g24,h⟩ | ⟨g24,h⟩
    .refine yaq (Wp.reg ?_)
     obtain ⟨r0_7,g25,h⟩:=yah h
     refine yed (yz (zqy g25) (yp _)) (ycm (yh ?_))
     exact yad [.kill [3,89,90,95,126],.cell 6 8 .frz,.tidy] (zaz h)
    .refine yao (Wp.seq ?_)
     refine yy (yh ?_)
     rcases ifS h with ⟨g26,h⟩ | ⟨g26,h⟩
     .refine yaq (Wp.seq ?_)
      rcases ifS h with ⟨g27,h⟩ | ⟨g27,h⟩
      .rcases ifS h with ⟨g28,h⟩ | ⟨g28,h⟩
       .rcases ifS h with ⟨g29,h⟩ | ⟨g29,h⟩
        .obtain ⟨r0_8,g30,h⟩:=yah h
         refine yav [68] yau (ydi 24 (yz (zlj g30) (yp _)) (ybh _)) (yh ?_)
         exact yad [.kill [3,89,90,95,126,131],.tidy] (ziu h)
        .refine yav [] yau (ybh _) (yh ?_)
         exact yad [.kill [3,89,90,95,126,131],.tidy] (ziu h)
       .refine yav [] yau (ybh _) (yh ?_)
        exact yad [.kill [3,89,90,95,126,131],.tidy] (ziu h)
      .refine yav [] yau (ybh _) (yh ?_)
       exact yad [.kill [3,89,90,95,126,131],.tidy] (ziu h)
     .refine yao (Wp.seq ?_)
      refine yy (yh ?_)
      rcases ifS h with ⟨g33,h⟩ | ⟨g33,h⟩
      .refine yaq (Wp.reg ?_)
       obtain ⟨r0_10,g34,h⟩:=yah h
       refine yed (yz (zpf g34) (yp _)) (ycm (yh ?_))
       exact yad [.kill [3,89,90,95,126,131,161],.tidy] (zaz h)
      .refine yao (Wp.seq ?_)
       refine yy (yh ?_)
       rcases ifS h with ⟨g35,h⟩ | ⟨g35,h⟩
       .refine yaq (Wp.reg ?_)
        obtain ⟨r0_11,g36,h⟩:=yah h
        refine yed (yz (zqx g36) (yp _)) (ycm (yh ?_))
        exact yad [.kill [3,89,90,95,126,131,161,166],.tidy] (zaz h)
       .refine yao (Wp.seq ?_)
        refine yy (yh ?_)
        rcases ifS h with ⟨g37,h⟩ | ⟨g37,h⟩
        .refine yaq (Wp.reg ?_)
         obtain ⟨r0_12,g38,h⟩:=yah h
         refine yed (yz (zqv g38) (yp _)) (ycm (yh ?_))
         exact yad [.kill [3,89,90,95,126,131,161,166,171],.tidy] (zaz h)
        .refine yao (Wp.skip (ycm (yh ?_)))
         exact yad [.kill [3,89,90,95,126,131,161,166,171],.cell 6 8 .frz,.tidy] (zaz h)
theorem zis{x0:yj}{r0_1:yd}{v83:Bool}{r:(ye × (List yj))} (h:zcu x0 r0_1 v83=some r):Wp Pg 180 0 (.cond (.t 83) (.reg none yass) .skip) ⟨[(0,.bad),(1,.bad),(2,.bad),(3,.ptr 0 0),(4,.ptr 1 0),(5,.bad),(6,.ptr 2 0),(56,.bad),(83,.bool v83),(89,.bad),(90,.bad),(95,.bad),(123,.bad),(126,.bad),(131,.bad),(158,.bad),(161,.bad),(166,.bad),(171,.bad)],[],(ztv x0 r0_1 (0:Int) (0:Int) (0:Int) (0:Int) (0:Int) (0:Int) (0:Int) (0:Int) (0:Int) (0:Int) (0:Int)),9⟩ (ybu Pg 180 0 (.seq (.seq (.reg none yaiz) (.block 0 (.seq (.reg none yaja) (.cond (.t 90) (.reg none yajb) (.seq (.reg none yajc) (.cond (.t 95) (.seq (.reg (some []) yacz) (.cond (.t 123) (.reg none yxl) .skip)) (.seq (.reg none yada) (.cond (.t 126) (.reg none yadb) (.seq (.reg none yadc) (.cond (.t 131) (.seq (.reg (some []) yadd) (.cond (.t 158) (.reg none yxm) .skip)) (.seq (.reg none yade) (.cond (.t 161) (.reg none yadf) (.seq (.reg none yadg) (.cond (.t 166) (.reg none yadh) (.seq (.reg none yadi) (.cond (.t 171) (.reg none yadj) .skip)))))))))))))))) (.seq (.reg none yrl) .ret)) (yyx r)):=by
  unfold zcu at h
  rcases ifS h with ⟨g13,h⟩ | ⟨g13,h⟩
  .refine yaq (Wp.reg ?_)
   obtain ⟨r0_3,g14,h⟩:=yah h
   refine yed (yz (zex g14) (yp _)) (yh ?_)
   exact yad [.kill [83],.tidy] (zmw h)
  .refine yao (Wp.skip (yh ?_))
   exact yad [.kill [83]] (zmw h)
theorem zcx{x0:yj}{r0_1:yd}{v56:Bool}{r:(ye × (List yj))} (h:zbb x0 r0_1 v56=some r):Wp Pg 180 0 (.cond (.t 56) (.seq (.reg none ybni) .ret) .skip) ⟨[(0,.bad),(1,.bad),(2,.bad),(3,.ptr 0 0),(4,.ptr 1 0),(5,.bad),(6,.ptr 2 0),(56,.bool v56),(83,.bad),(89,.bad),(90,.bad),(95,.bad),(123,.bad),(126,.bad),(131,.bad),(158,.bad),(161,.bad),(166,.bad),(171,.bad)],[],(ztv x0 r0_1 (0:Int) (0:Int) (0:Int) (0:Int) (0:Int) (0:Int) (0:Int) (0:Int) (0:Int) (0:Int) (0:Int)),9⟩ (ybu Pg 180 0 (.seq (.seq (.reg (some []) ybnj) (.cond (.t 83) (.reg none yass) .skip)) (.seq (.seq (.reg none yaiz) (.block 0 (.seq (.reg none yaja) (.cond (.t 90) (.reg none yajb) (.seq (.reg none yajc) (.cond (.t 95) (.seq (.reg (some []) yacz) (.cond (.t 123) (.reg none yxl) .skip)) (.seq (.reg none yada) (.cond (.t 126) (.reg none yadb) (.seq (.reg none yadc) (.cond (.t 131) (.seq (.reg (some []) yadd) (.cond (.t 158) (.reg none yxm) .skip)) (.seq (.reg none yade) (.cond (.t 161) (.reg none yadf) (.seq (.reg none yadg) (.cond (.t 166) (.reg none yadh) (.seq (.reg none yadi) (.cond (.t 171) (.reg none yadj) .skip)))))))))))))))) (.seq (.reg none yrl) .ret))) (yyx r)):=by
  unfold zbb at h
  rcases ifS h with ⟨g8,h⟩ | ⟨g8,h⟩
  .refine yaq (Wp.seq (Wp.reg ?_))
   obtain ⟨r0_2,g9,h⟩:=yah h
   replace h:=ybd h; subst h
   refine yjz 2 (yz (zpe g9) (yp _)) ?_
   refine ybo (yp _) (yh ?_)
   refine ybc [.cell 4 8 .frz,.cell 4 10 .frz,.cell 4 11 .frz,.cell 4 12 .frz,.cell 4 13 .frz,.at 5 .frz] (Wp.ret (yde ?_))
   exact yce
  .refine yao (Wp.skip (yh (Wp.seq (Wp.seq ?_))))
   rcases ifS h with ⟨g10,h⟩ | ⟨g10,h⟩
   .rcases ifS h with ⟨g11,h⟩ | ⟨g11,h⟩
    .rcases ifS h with ⟨g12,h⟩ | ⟨g12,h⟩
     .refine yav [] yau (ybh _) (yh ?_)
      exact yad [.kill [56],.tidy] (zis h)
     .refine yav [] yau (ybh _) (yh ?_)
      exact yad [.kill [56],.tidy] (zis h)
    .refine yav [] yau (ybh _) (yh ?_)
     exact yad [.kill [56],.tidy] (zis h)
   .refine yav [] yau (ybh _) (yh ?_)
    exact yad [.kill [56],.tidy] (zis h)
theorem zsr{r0:ye}{x0:yj}{r:(ye × (List yj))} (h:zjt r0 x0=some r):yap Pg 48 [.agg [.int .i64 r0.Id,.int .i64 r0.N,.int .i64 r0.yc,.int .i64 r0.yan,.int .i64 r0.ym,.int .i64 r0.yak,.int .i64 r0.yg.yn,.int .i64 r0.yg.yv,sl yk.c r0.yg.yi,.int .i64 r0.yl,sl (ci .u8) r0.yaf,sl cb r0.yq,sl (ci .i64) r0.Next,sl (ci .i64) r0.yaa,.int .i64 r0.yu,.int .i64 r0.yam],.agg [.int .i64 x0.yae,.int .i64 x0.yhn,.int .i64 x0.From,.int .i64 x0.To,.int .i64 x0.yc,.int .i64 x0.At,.int .i64 x0.ybf,.int .i64 x0.yl,.bool x0.Ok,sl yk.c x0.yi,sl (ci .u8) x0.yck]] [] 0 (.tup [.agg [.int .i64 r.1.Id,.int .i64 r.1.N,.int .i64 r.1.yc,.int .i64 r.1.yan,.int .i64 r.1.ym,.int .i64 r.1.yak,.int .i64 r.1.yg.yn,.int .i64 r.1.yg.yv,sl yk.c r.1.yg.yi,.int .i64 r.1.yl,sl (ci .u8) r.1.yaf,sl cb r.1.yq,sl (ci .i64) r.1.Next,sl (ci .i64) r.1.yaa,.int .i64 r.1.yu,.int .i64 r.1.yam],sl yj.c r.2]) [] 0:=by
  refine yap.intro Try.func48 ybnk (yal rfl) ?_
  show Wp Pg 180 0 ybeo ⟨yaz _ ybep,[],_,_⟩ (yyx r)
  unfold zjt at h
  unfold ybeo
  refine ybc [] ?_
  refine Wp.seq (yy (yh (Wp.seq (Wp.reg ?_))))
  obtain ⟨r0_1,g1,h⟩:=yah h
  refine yjz 2 (yz (znb g1) (yp _)) ?_
  refine ybo (yp _) (yh (Wp.seq (Wp.seq ?_)))
  rcases ifS h with ⟨g2,h⟩ | ⟨g2,h⟩
  .refine yav [] yau (ybh _) (yh ?_)
   exact yad [.kill [0,1,2,5,83,89,90,95,123,126,131,158,161,166,171],.tidy] (zcx h)
  .rcases ifS h with ⟨g3,h⟩ | ⟨g3,h⟩
   .refine yav [] yau (ybh _) (yh ?_)
    exact yad [.kill [0,1,2,5,83,89,90,95,123,126,131,158,161,166,171],.tidy] (zcx h)
   .rcases ifS h with ⟨g4,h⟩ | ⟨g4,h⟩
    .refine yav [] yau (ybh _) (yh ?_)
     exact yad [.kill [0,1,2,5,83,89,90,95,123,126,131,158,161,166,171],.tidy] (zcx h)
    .rcases ifS h with ⟨g5,h⟩ | ⟨g5,h⟩
     .refine yav [] yau (ybh _) (yh ?_)
      exact yad [.kill [0,1,2,5,83,89,90,95,123,126,131,158,161,166,171],.tidy] (zcx h)
     .rcases ifS h with ⟨g6,h⟩ | ⟨g6,h⟩
      .refine yav [] yau (ybh _) (yh ?_)
       exact yad [.kill [0,1,2,5,83,89,90,95,123,126,131,158,161,166,171],.tidy] (zcx h)
      .rcases ifS h with ⟨g7,h⟩ | ⟨g7,h⟩
       .refine yav [] yau (ybh _) (yh ?_)
        exact yad [.kill [0,1,2,5,83,89,90,95,123,126,131,158,161,166,171],.tidy] (zcx h)
       .refine yav [] yau (ybh _) (yh ?_)
        exact yad [.kill [0,1,2,5,83,89,90,95,123,126,131,158,161,166,171],.tidy] (zcx h)
abbrev ybht(r:yab):Ex->St->Prop:=ycb 0 [.cell 4 true 2] (.agg [sl ye.c r.R,sl yj.c r.Net]) [] 0
theorem zmo{r0_4:(yab × yj)}{v87:Bool}{r:yab} (h:zdv r0_4 v87=some r):Wp Pg 177 0 (.cond (.t 87) (.seq (.reg none yamb) .ret) .skip) ⟨[(0,.bad),(1,.bad),(2,.bad),(3,.bad),(4,.ptr 0 0),(5,.bad),(6,.bad),(7,.bad),(8,.bad),(9,.ptr 1 0),(10,.ptr 2 0),(11,.bad),(12,.bad),(13,.bad),(15,.bad),(16,.bad),(17,.bad),(18,.bad),(19,.bad),(20,.bad),(21,.bad),(34,.bad),(35,.bad),(49,.bad),(56,.bad),(87,.bool v87),(108,.bad),(120,.bad),(127,.bad),(145,.bad),(151,.bad),(170,.bad)],[],(hs8 r0_4.2 r0_4.1.R r0_4.1.Net),3⟩ (ybu Pg 177 0 (.seq (.reg (some [(1,12),(3,12),(6,12),(7,12),(8,12)]) yamc) (.seq (.reg none yamd) .ret)) (yay 0 (ybu Pg 177 0 (.seq (.reg none yame) .ret) (ybht r)))):=by
  unfold zdv at h
  rcases ifS h with ⟨g14,h⟩ | ⟨g14,h⟩
  .replace h:=ybd h; subst h
   refine yaq (Wp.seq ?_)
   refine yy (yh (Wp.ret (yde (yfd (yde ?_)))))
   exact yce
  .refine yao (Wp.skip (yh (Wp.seq ?_)))
   obtain ⟨e_1,g15,h⟩:=yah h
   obtain ⟨r0_5,g16,h⟩:=yah h
   refine yav [] yau (ydi 8 (yz (zsr g16) (yp _)) (ybh _)) (yh (Wp.seq (Wp.reg ?_)))
   obtain ⟨r0_6,g17,h⟩:=yah h
   replace h:=ybd h; subst h
   refine ybw 7 (yz (zkj g17) (yp _)) ?_
   refine ybo (yp _) (yh (Wp.ret (yfd (yde ?_))))
   exact yce
theorem zmn{w:yab}{o:TOp}{r0:Int}{e:ye}{v49:Bool}{r:yab} (h:zco w o r0 e v49=some r):Wp Pg 177 0 (.cond (.t 49) (.seq (.seq (.reg none yayv) (.cond (.t 56) (.seq (.reg none yayw) .ret) .skip)) (.seq (.reg (some [(0,6),(6,8),(0,14),(2,14),(4,14),(6,14),(8,14),(10,14),(0,15),(2,15),(4,15),(6,15),(8,15),(10,15),(14,15)]) yayx) (.seq (.seq (.reg none yayy) (.cond (.t 87) (.seq (.reg none yamb) .ret) .skip)) (.seq (.reg (some [(1,12),(3,12),(6,12),(7,12),(8,12)]) yamc) (.seq (.reg none yamd) .ret))))) (.seq (.reg none yayz) (.cond (.t 108) (.seq (.reg none yaza) (.seq (.seq (.reg none yazb) (.cond (.t 120) (.seq (.reg none yazc) .ret) .skip)) (.seq (.reg none yazd) .ret))) (.seq (.reg none yaze) (.cond (.t 127) (.seq (.reg (some [(1,4)]) yazf) (.seq (.reg none yazg) (.seq (.seq (.reg none yazh) (.cond (.t 145) (.seq (.reg none yazi) .ret) .skip)) (.seq (.reg none yazj) .ret)))) (.seq (.reg none yazk) (.cond (.t 151) (.seq (.reg none yazl) (.seq (.seq (.reg none yazm) (.cond (.t 170) (.seq (.reg none yazn) .ret) .skip)) (.seq (.reg none yazo) .ret))) .skip))))))) ⟨[(0,.bad),(1,.bad),(2,.ptr 0 0),(3,.ptr 1 0),(4,.ptr 2 0),(5,.int .i64 r0),(6,.ptr 3 0),(7,.bad),(8,.bad),(9,.bad),(10,.bad),(11,.bad),(12,.bad),(13,.bad),(15,.bad),(16,.bad),(17,.bad),(18,.bad),(19,.bad),(20,.bad),(21,.bad),(34,.int .i64 o.yae),(35,.bad),(49,.bool v49),(56,.bad),(87,.bad),(108,.bad),(120,.bad),(127,.bad),(145,.bad),(151,.bad),(170,.bad)],[],(hs6 o e w.R w.Net),4⟩ (yay 0 (ybu Pg 177 0 (.seq (.reg none yame) .ret) (ybht r))):=by
  unfold zco at h
  rcases ifS h with ⟨g8,h⟩ | ⟨g8,h⟩
  .refine yaq (Wp.seq (Wp.seq ?_))
   refine yy (yh ?_)
   rcases ifS h with ⟨g9,h⟩ | ⟨g9,h⟩
   .replace h:=ybd h; subst h
    refine yaq (Wp.seq ?_)
    refine yy (yh (Wp.ret (yde (yfd (yde ?_)))))
    exact yce
   .refine yao (Wp.skip (yh (Wp.seq ?_)))
    obtain ⟨r0_3,g10,h⟩:=yah h
    obtain ⟨r0_4,g11,h⟩:=yah h
    refine yav [] yau (ydi 6 (yz (zmx g10) (yp _)) (ydi 10 (yz (zto g11) (yp _)) (ybh _))) (yh (Wp.seq (Wp.seq ?_)))
    rcases ifS h with ⟨g12,h⟩ | ⟨g12,h⟩
    .refine yy (yh ?_)
     exact yad [.kill [2,3,5,6,34,49,56],.tidy] (zmo h)
    .rcases ifS h with ⟨g13,h⟩ | ⟨g13,h⟩
     .refine yy (yh ?_)
      exact yad [.kill [2,3,5,6,34,49,56],.tidy] (zmo h)
     .refine yy (yh ?_)
      exact yad [.kill [2,3,5,6,34,49,56],.tidy] (zmo h)
  .refine yao (Wp.seq ?_)
   refine yy (yh ?_)
   rcases ifS h with ⟨g18,h⟩ | ⟨g18,h⟩
   .refine yaq (Wp.seq (Wp.reg ?_))
    obtain ⟨r0_7,g19,h⟩:=yah h
    refine ybw 4 (yz (zsq g19) (yp _)) ?_
    refine ybo (yp _) (yh (Wp.seq (Wp.seq ?_)))
    refine yy (yh ?_)
    rcases ifS h with ⟨g20,h⟩ | ⟨g20,h⟩
    .replace h:=ybd h; subst h
     refine yaq (Wp.seq ?_)
     refine yy (yh (Wp.ret (yde (yfd (yde ?_)))))
     exact yce
    .refine yao (Wp.skip (yh (Wp.seq (Wp.reg ?_))))
     obtain ⟨r0_8,g21,h⟩:=yah h
     replace h:=ybd h; subst h
     refine ybw 5 (yz (zkj g21) (yp _)) ?_
     refine ybo (yp _) (yh (Wp.ret (yfd (yde ?_))))
     exact yce
   .refine yao (Wp.seq ?_)
    refine yy (yh ?_)
    rcases ifS h with ⟨g22,h⟩ | ⟨g22,h⟩
    .refine yaq (Wp.seq ?_)
     obtain ⟨r0_9,g23,h⟩:=yah h
     refine yav [] yau (ydi 4 (yz (zmx g23) (yp _)) (ybh _)) (yh (Wp.seq (Wp.reg ?_)))
     obtain ⟨r0_10,g24,h⟩:=yah h
     refine ybw 6 (yz (zsp g24) (yp _)) ?_
     refine ybo (yp _) (yh (Wp.seq (Wp.seq ?_)))
     refine yy (yh ?_)
     rcases ifS h with ⟨g25,h⟩ | ⟨g25,h⟩
     .replace h:=ybd h; subst h
      refine yaq (Wp.seq ?_)
      refine yy (yh (Wp.ret (yde (yfd (yde ?_)))))
      exact yce
     .refine yao (Wp.skip (yh (Wp.seq (Wp.reg ?_))))
      obtain ⟨r0_11,g26,h⟩:=yah h
      replace h:=ybd h; subst h
      refine ybw 4 (yz (zkj g26) (yp _)) ?_
      refine ybo (yp _) (yh (Wp.ret (yfd (yde ?_))))
      exact yce
    .refine yao (Wp.seq ?_)
     refine yy (yh ?_)
     rcases ifS h with ⟨g27,h⟩ | ⟨g27,h⟩
     .refine yaq (Wp.seq (Wp.reg ?_))
      obtain ⟨r0_12,g28,h⟩:=yah h
      refine ybw 13 (yz (zss g28) (yp _)) ?_
      refine ybo (yp _) (yh (Wp.seq (Wp.seq ?_)))
      refine yy (yh ?_)
      rcases ifS h with ⟨g29,h⟩ | ⟨g29,h⟩
      .replace h:=ybd h; subst h
       refine yaq (Wp.seq ?_)
       refine yy (yh (Wp.ret (yde (yfd (yde ?_)))))
       exact yce
      .refine yao (Wp.skip (yh (Wp.seq (Wp.reg ?_))))
       obtain ⟨r0_13,g30,h⟩:=yah h
       replace h:=ybd h; subst h
       refine ybw 4 (yz (zkj g30) (yp _)) ?_
       refine ybo (yp _) (yh (Wp.ret (yfd (yde ?_))))
       exact yce
     .replace h:=ybd h; subst h
      refine yao (Wp.skip (ycm (yh (Wp.seq ?_))))
      refine yy (yh (Wp.ret ?_))
      exact yce
theorem zop{w:yab}{o:TOp}{r:yab} (h:zey w o=some r):yap Pg 20 [.agg [sl ye.c w.R,sl yj.c w.Net],.agg [.int .i64 o.yae,.int .i64 o.Who,.int .i64 o.N,sl (ci .u8) o.yck]] [] 0 (.agg [sl ye.c r.R,sl yj.c r.Net]) [] 0:=by
  refine yap.intro Try.func20 yblt (yal rfl) ?_
  show Wp Pg 177 0 ybdi ⟨yaz _ ybdj,[],_,_⟩ (ybht r)
  unfold zey at h
  unfold ybdi
  refine ybc [] ?_
  refine Wp.seq (yy (yh (Wp.seq (Wp.reg ?_))))
  obtain ⟨r0,g1,h⟩:=yah h
  refine ybw 6 (yz (zmx g1) (yp _)) ?_
  refine ybo (yp _) (yh (Wp.seq ?_))
  obtain ⟨e,g2,h⟩:=yah h
  refine yy (yh (Wp.seq (Wp.seq ?_)))
  refine yy (yh (Wp.block (Wp.seq ?_)))
  refine yy (yh ?_)
  rcases ifS h with ⟨g3,h⟩ | ⟨g3,h⟩
  .refine yaq (Wp.seq (Wp.reg ?_))
   obtain ⟨r0_1,g4,h⟩:=yah h
   refine ybw 4 (yz (zts g4) (yp _)) ?_
   refine ybo (yp _) (yh (Wp.seq (Wp.reg ?_)))
   obtain ⟨r0_2,g5,h⟩:=yah h
   replace h:=ybd h; subst h
   refine ybw 5 (yz (zkj g5) (yp _)) ?_
   refine ybo (yp _) (yh (Wp.ret (yfd (yde ?_))))
   exact yce
  .refine yao (Wp.seq (Wp.seq ?_))
   refine yy (yh ?_)
   rcases ifS h with ⟨g6,h⟩ | ⟨g6,h⟩
   .refine yaq (Wp.skip (yh ?_))
    exact yad [.kill [0,1,7,8,9,10,11,12,13,15,16,17,18,19,20,21,35,56,87,108,120,127,145,151,170],.tidy] (zmn h)
   .refine yao (Wp.seq ?_)
    refine yy (yh ?_)
    rcases ifS h with ⟨g7,h⟩ | ⟨g7,h⟩
    .refine yaq (Wp.skip (yh ?_))
     exact yad [.kill [0,1,7,8,9,10,11,12,13,15,16,17,18,19,20,21,35,56,87,108,120,127,145,151,170],.tidy] (zmn h)
    .refine yao ?_
     refine yy (yh ?_)
     exact yad [.kill [0,1,7,8,9,10,11,12,13,15,16,17,18,19,20,21,35,56,87,108,120,127,145,151,170],.tidy] (zmn h)
abbrev ydkk(r:Int):Ex->St->Prop:=ycb 0 [.tmp 2] (.int .i64 r) [] 0
theorem zgo{l:yag}{r:Int} (h:zew l=some r):yap Pg 25 [.agg [.int .i64 l.yn,.int .i64 l.yv,sl yk.c l.yi]] [] 0 (.int .i64 r) [] 0:=by
  refine yap.intro Try.func25 ybmd (yal rfl) ?_
  show Wp Pg 9 0 ybdo ⟨yaz _ ybdp,[],_,_⟩ (ydkk r)
  unfold zew at h
  unfold ybdo
  refine ybc [] ?_
  replace h:=ybd h; subst h
  refine Wp.seq (yy (yh (Wp.seq ?_)))
  refine yy (yh (Wp.ret ?_))
  exact yce
abbrev yccx(r:(yk × Bool)):Ex->St->Prop:=ycb 0 [.cell 4 true 2,.tmp 5] (.tup [.agg [.int .i64 r.1.yc,sl (ci .u8) r.1.yck],.bool r.2]) [] 0
theorem znm{l:yag}{at0:Int}{v15:Bool}{r:(yk × Bool)} (h:zik l at0 v15=some r):Wp Pg 26 0 (.cond (.t 15) (.seq (.reg none ybma) .ret) .skip) ⟨[(0,.bad),(1,.int .i64 at0),(2,.ptr 0 0),(4,.ptr 1 0),(5,.bad),(15,.bool v15)],[],[(0,.box [.int .i64 l.yn,.int .i64 l.yv,sl yk.c l.yi]),(1,.box [.int .i64 (0:Int),.nil])],2⟩ (ybu Pg 26 0 (.seq (.reg none ybmb) .ret) (yccx r)):=by
  unfold zik at h
  rcases ifS h with ⟨g3,h⟩ | ⟨g3,h⟩
  .replace h:=ybd h; subst h
   refine yaq (Wp.seq ?_)
   refine yy (yh ?_)
   refine ybc [.cell 4 1 .frz] (Wp.ret (yde ?_))
   exact yce
  .refine yao (Wp.skip (yh (Wp.seq ?_)))
   obtain ⟨e,g4,h⟩:=yah h
   replace h:=ybd h; subst h
   refine yy (yh (Wp.ret ?_))
   exact yce
theorem zpn{l:yag}{at0:Int}{r:(yk × Bool)} (h:ziy l at0=some r):yap Pg 24 [.agg [.int .i64 l.yn,.int .i64 l.yv,sl yk.c l.yi],.int .i64 at0] [] 0 (.tup [.agg [.int .i64 r.1.yc,sl (ci .u8) r.1.yck],.bool r.2]) [] 0:=by
  refine yap.intro Try.func24 ybmc (yal rfl) ?_
  show Wp Pg 26 0 ybdm ⟨yaz _ ybdn,[],_,_⟩ (yccx r)
  unfold ziy at h
  unfold ybdm
  refine ybc [] ?_
  refine Wp.seq (yy (yh (Wp.seq (Wp.seq (Wp.reg ?_)))))
  rcases ifS h with ⟨g1,h⟩ | ⟨g1,h⟩
  .refine ybo (yp _) (yh ?_)
   exact yad [.kill [0,5],.tidy] (znm h)
  .obtain ⟨r0,g2,h⟩:=yah h
   refine ybw 8 (yz (zgo g2) (yp _)) ?_
   refine ybo (yp _) (yh ?_)
   exact yad [.kill [0,5],.tidy] (znm h)
abbrev ywf(r:Bool):Ex->St->Prop:=ycb 0 [.tmp 4] (.bool r) [] 0
abbrev zfe(a b:yag)(rec0:Bool->Int->Option Bool)(r:Bool):Prop:=∀ {met:Bool} {at0:Int},rec0 met at0=some r->LWp Pg 76 0 yqm ⟨[(0,.bad),(1,.bad),(2,.ptr 0 0),(3,.ptr 1 0),(4,.bad),(5,.bad),(6,.bool met),(7,.int .i64 at0),(8,.bad),(9,.bad),(10,.bad),(11,.bad),(17,.bad),(30,.bad),(50,.bad),(75,.bad)],[],[(0,.box [.int .i64 a.yn,.int .i64 a.yv,sl yk.c a.yi]),(1,.box [.int .i64 b.yn,.int .i64 b.yv,sl yk.c b.yi])],2⟩ (yay 0 (ybu Pg 76 0 (.seq (.reg none ypt) .ret) (ywf r)))
theorem zlg{a b:yag}{at0:Int}{met_2 v75:Bool}{r:Bool}{zc:Bool->Int->Option Bool}(zp:zfe a b zc r)(h:zgl zc at0 met_2 v75=some r):Wp Pg 76 0 (.cond (.t 75) (.seq (.reg none yxh) .ret) .skip) ⟨[(0,.bad),(1,.bad),(2,.ptr 0 0),(3,.ptr 1 0),(4,.bad),(5,.bad),(6,.bool met_2),(7,.int .i64 at0),(8,.bad),(9,.bad),(10,.bad),(11,.bad),(17,.bad),(30,.bad),(50,.bad),(75,.bool v75)],[],[(0,.box [.int .i64 a.yn,.int .i64 a.yv,sl yk.c a.yi]),(1,.box [.int .i64 b.yn,.int .i64 b.yv,sl yk.c b.yi])],2⟩ (yay 1 (ybu Pg 76 0 (.reg none yxi) (ygz Pg 76 0 yqm (yay 0 (ybu Pg 76 0 (.seq (.reg none ypt) .ret) (ywf r)))))):=by
  unfold zgl at h
  rcases ifS h with ⟨g13,h⟩ | ⟨g13,h⟩
  .replace h:=ybd h; subst h
   refine yaq (Wp.seq ?_)
   refine yy (yh (Wp.ret (yfd (yde (yadm (yfd (yde ?_)))))))
   exact yce
  .refine yao (Wp.skip (ycm (yh ?_)))
   refine yy (yho ?_)
   exact ydb [.kill [75]] (zp h)
theorem znl{a b:yag}{at0:Int}{r0_2 r0_3:(yk × Bool)}{met_1:Bool}{r:Bool}{zc:Bool->Int->Option Bool}(zp:zfe a b zc r)(h:zgk zc at0 r0_2 r0_3 met_1=some r):Wp Pg 76 0 (.seq (.reg none yacy) (.cond (.t 75) (.seq (.reg none yxh) .ret) .skip)) ⟨[(0,.bad),(1,.bad),(2,.ptr 0 0),(3,.ptr 1 0),(4,.bad),(5,.bad),(6,.bool met_1),(7,.int .i64 at0),(8,.ptr 2 0),(9,.bad),(10,.ptr 3 0),(11,.bad),(17,.bad),(30,.bad),(50,.bad),(75,.bad)],[],[(0,.box [.int .i64 a.yn,.int .i64 a.yv,sl yk.c a.yi]),(1,.box [.int .i64 b.yn,.int .i64 b.yv,sl yk.c b.yi]),(2,.box [.int .i64 r0_2.1.yc,sl (ci .u8) r0_2.1.yck]),(3,.box [.int .i64 r0_3.1.yc,sl (ci .u8) r0_3.1.yck])],4⟩ (yay 1 (ybu Pg 76 0 (.reg none yxi) (ygz Pg 76 0 yqm (yay 0 (ybu Pg 76 0 (.seq (.reg none ypt) .ret) (ywf r)))))):=by
  unfold zgk at h
  refine Wp.seq ?_
  rcases ifS h with ⟨g11,h⟩ | ⟨g11,h⟩
  .rcases ifS h with ⟨g12,h⟩ | ⟨g12,h⟩
   .refine yy (yh ?_)
    exact yad [.kill [8,10],.tidy] (zlg (a:=a) (b:=b) zp h)
   .refine yy (yh ?_)
    exact yad [.kill [8,10],.tidy] (zlg (a:=a) (b:=b) zp h)
  .refine yy (yh ?_)
   exact yad [.kill [8,10],.tidy] (zlg (a:=a) (b:=b) zp h)
theorem znk{a b:yag}{met:Bool}{at0:Int}{r0_2 r0_3:(yk × Bool)}{v50:Bool}{r:Bool}{zc:Bool->Int->Option Bool}(zp:zfe a b zc r)(h:zij zc met at0 r0_2 r0_3 v50=some r):Wp Pg 76 0 (.cond (.t 50) (.seq (.reg none yamf) .ret) .skip) ⟨[(0,.bad),(1,.bad),(2,.ptr 0 0),(3,.ptr 1 0),(4,.bad),(5,.bad),(6,.bool met),(7,.int .i64 at0),(8,.ptr 2 0),(9,.bad),(10,.ptr 3 0),(11,.bad),(17,.bad),(30,.bad),(50,.bool v50),(75,.bad)],[],[(0,.box [.int .i64 a.yn,.int .i64 a.yv,sl yk.c a.yi]),(1,.box [.int .i64 b.yn,.int .i64 b.yv,sl yk.c b.yi]),(2,.box [.int .i64 r0_2.1.yc,sl (ci .u8) r0_2.1.yck]),(3,.box [.int .i64 r0_3.1.yc,sl (ci .u8) r0_3.1.yck])],4⟩ (ybu Pg 76 0 (.seq (.reg none yamg) (.seq (.reg none yacy) (.cond (.t 75) (.seq (.reg none yxh) .ret) .skip))) (yay 1 (ybu Pg 76 0 (.reg none yxi) (ygz Pg 76 0 yqm (yay 0 (ybu Pg 76 0 (.seq (.reg none ypt) .ret) (ywf r))))))):=by
  unfold zij at h
  rcases ifS h with ⟨g9,h⟩ | ⟨g9,h⟩
  .replace h:=ybd h; subst h
   refine yaq (Wp.seq ?_)
   refine yy (yh (Wp.ret (yde (yfd (yde (yadm (yfd (yde ?_))))))))
   exact yce
  .refine yao (Wp.skip (yh (Wp.seq ?_)))
   rcases ifS h with ⟨g10,h⟩ | ⟨g10,h⟩
   .refine yy (yh ?_)
    exact yad [.kill [50]] (znl (a:=a) (b:=b) zp h)
   .refine yy (yh ?_)
    exact yad [.kill [50]] (znl (a:=a) (b:=b) zp h)
theorem znj{a b:yag}{met:Bool}{at0:Int}{v30:Bool}{r:Bool}{zc:Bool->Int->Option Bool}(zp:zfe a b zc r)(h:zfd zc a b met at0 v30=some r):Wp Pg 76 0 (.cond (.t 30) .skip (.out 0)) ⟨[(0,.bad),(1,.bad),(2,.ptr 0 0),(3,.ptr 1 0),(4,.bad),(5,.bad),(6,.bool met),(7,.int .i64 at0),(8,.bad),(9,.bad),(10,.bad),(11,.bad),(17,.bad),(30,.bool v30),(50,.bad),(75,.bad)],[],[(0,.box [.int .i64 a.yn,.int .i64 a.yv,sl yk.c a.yi]),(1,.box [.int .i64 b.yn,.int .i64 b.yv,sl yk.c b.yi])],2⟩ (ybu Pg 76 0 (.seq (.block 1 (.seq (.reg none yblw) (.seq (.reg none yblx) (.seq (.seq (.reg none ybly) (.cond (.t 50) (.seq (.reg none yamf) .ret) .skip)) (.seq (.reg none yamg) (.seq (.reg none yacy) (.cond (.t 75) (.seq (.reg none yxh) .ret) .skip))))))) (.reg none yxi)) (ygz Pg 76 0 yqm (yay 0 (ybu Pg 76 0 (.seq (.reg none ypt) .ret) (ywf r))))):=by
  unfold zfd at h
  rcases ifS h with ⟨g5,h⟩ | ⟨g5,h⟩
  .refine yaq (Wp.skip (yh (Wp.seq (Wp.block (Wp.seq (Wp.reg ?_))))))
   obtain ⟨r0_2,g6,h⟩:=yah h
   refine ybw 3 (yz (zpn g6) (yp _)) ?_
   refine ybo (yp _) (yh (Wp.seq (Wp.reg ?_)))
   obtain ⟨r0_3,g7,h⟩:=yah h
   refine ybw 3 (yz (zpn g7) (yp _)) ?_
   refine ybo (yp _) (yh (Wp.seq (Wp.seq ?_)))
   rcases ifS h with ⟨g8,h⟩ | ⟨g8,h⟩
   .refine yy (yh ?_)
    exact yad [.kill [9,11,30],.tidy] (znk (a:=a) (b:=b) zp h)
   .refine yy (yh ?_)
    exact yad [.kill [9,11,30],.tidy] (znk (a:=a) (b:=b) zp h)
  .replace h:=ybd h; subst h
   refine yao (Wp.out (yjp (yhp (yfh (yh (Wp.seq ?_))))))
   refine yy (yh (Wp.ret ?_))
   exact yce
theorem zqq{a b:yag}{r:Bool} {zc:Bool->Int->Option Bool}(zp:zfe a b zc r){met:Bool}{at0:Int}(h:zgs a b zc met at0=some r):LWp Pg 76 0 yqm ⟨[(0,.bad),(1,.bad),(2,.ptr 0 0),(3,.ptr 1 0),(4,.bad),(5,.bad),(6,.bool met),(7,.int .i64 at0),(8,.bad),(9,.bad),(10,.bad),(11,.bad),(17,.bad),(30,.bad),(50,.bad),(75,.bad)],[],[(0,.box [.int .i64 a.yn,.int .i64 a.yv,sl yk.c a.yi]),(1,.box [.int .i64 b.yn,.int .i64 b.yv,sl yk.c b.yi])],2⟩ (yay 0 (ybu Pg 76 0 (.seq (.reg none ypt) .ret) (ywf r))):=by
  unfold zgs at h
  refine LWp.stepC yqm.eq_1 ?_
  refine Wp.seq (Wp.seq ?_)
  rcases ifS h with ⟨g4,h⟩ | ⟨g4,h⟩
  .refine yy (yh ?_)
   exact yad [] (znj zp h)
  .refine yy (yh ?_)
   exact yad [] (znj zp h)
theorem zrs{a b:yag}{r:Bool}:∀ (n:Nat),zfe a b (zcm a b n) r:=by
  intro n
  induction n with
  | zero=>intro met at0 h; unfold zcm at h; cases h
  | succ n ih=>intro met at0 h; unfold zcm at h; exact zqq ih h
theorem zni{a b:yag}{last:Int}{r:Bool} (h:zii a b last=some r):Wp Pg 76 0 (.seq (.reg none yblu) (.seq (.seq (.reg none yblv) (.block 0 (.loop yqm))) (.seq (.reg none ypt) .ret))) ⟨[(0,.bad),(1,.bad),(2,.ptr 0 0),(3,.ptr 1 0),(4,.bad),(5,.int .i64 last),(6,.bad),(7,.bad),(8,.bad),(9,.bad),(10,.bad),(11,.bad),(17,.bad),(30,.bad),(50,.bad),(75,.bad)],[],[(0,.box [.int .i64 a.yn,.int .i64 a.yv,sl yk.c a.yi]),(1,.box [.int .i64 b.yn,.int .i64 b.yv,sl yk.c b.yi])],2⟩ (ywf r):=by
  unfold zii at h
  refine Wp.seq (yy (yh (Wp.seq (Wp.seq ?_))))
  refine yy (yh (Wp.block (Wp.loop ?_)))
  exact ydb [.kill [5]] (zrs _ h)
theorem zti{a:yag}{b:yag}{r:Bool} (h:zix a b=some r):yap Pg 22 [.agg [.int .i64 a.yn,.int .i64 a.yv,sl yk.c a.yi],.agg [.int .i64 b.yn,.int .i64 b.yv,sl yk.c b.yi]] [] 0 (.bool r) [] 0:=by
  refine yap.intro Try.func22 yblz (yal rfl) ?_
  show Wp Pg 76 0 ybdk ⟨yaz _ ybdl,[],_,_⟩ (ywf r)
  unfold zix at h
  unfold ybdk
  refine ybc [] ?_
  refine Wp.seq (yy (yh (Wp.seq (Wp.reg ?_))))
  obtain ⟨r0,g1,h⟩:=yah h
  refine ybw 2 (yz (zgo g1) (yp _)) ?_
  refine ybo (yp _) (yh (Wp.seq (Wp.seq (Wp.reg ?_))))
  obtain ⟨r0_1,g2,h⟩:=yah h
  refine ybw 2 (yz (zgo g2) (yp _)) ?_
  refine ybo (yp _) (yh ?_)
  rcases ifS h with ⟨g3,h⟩ | ⟨g3,h⟩
  .refine yaq (Wp.reg ?_)
   refine ybw 2 (yz (zgo g2) (yp _)) ?_
   refine ybo (yp _) (yh ?_)
   exact yad [.kill [0,1,4,6,7,8,9,10,11,17,30,50,75],.tidy] (zni h)
  .refine yao (Wp.skip (yh ?_))
   exact yad [.kill [0,1,4,6,7,8,9,10,11,17,30,50,75],.tidy] (zni h)
end Go.Proofs.Ytgoachcogmlhcaa.R
