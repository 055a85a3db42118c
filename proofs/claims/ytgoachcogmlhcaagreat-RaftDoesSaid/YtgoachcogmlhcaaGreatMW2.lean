/- The program's functions answer what the models answer: 2. -/
import Derived.Test.YtgoachcogmlhcaaGreatMW0
import Derived.Test.YtgoachcogmlhcaaGreatMW1
set_option maxRecDepth 100000
set_option maxHeartbeats 1600000
set_option linter.unusedVariables false
set_option linter.unusedSimpArgs false
set_option linter.defProp false
noncomputable section
namespace Go.Proofs.YtgoachcogmlhcaaGreat.R
open Go Nat
noncomputable abbrev ydsy(r:(List Bool)):Ex→St→Prop:=yay 0 [.tmp 4] (sl cb r) [] 0
theorem zyo{n0:Int}{who:Int}{r:(List Bool)} (h:zpk n0 who=some r):yag Pg 86 [.int .i64 n0,.int .i64 who] [] 0 (sl cb r) [] 0:=by
  refine yag.intro Tryz.func86 ybnn (yad rfl) ?_
  show Wp Pg 13 0 ybdc ⟨yal _ ybdd,[],_,_⟩ (ydsy r)
  unfold zpk at h
  unfold ybdc
  refine yai [] ?_
  refine Wp.seq (yh (yb (Wp.seq ?_)))
  replace h:=ycw h; obtain ⟨g1,h⟩:=h
  refine yh (yb (Wp.seq ?_))
  replace h:=yx h; obtain ⟨e,g2,h⟩:=h
  replace h:=yah h; subst h
  have:=ycr (n:=1) (id:=0) (ex:=true) (k:=.i64) g2 rfl
  try simp only [EV,EVt, *] at this
  have:=ydw (c:=cb) g2
  try simp only [EV,EVt, *] at this
  have:=ygk cb (List.replicate n0.toNat false) (IntKind.i64.wrap (who - (1:Int))) true
  try simp only [EV,EVt, *] at this
  refine yh (yb (Wp.seq ?_))
  refine yh (yb ?_)
  refine yai [.at 4 .frz] (Wp.ret ?_)
  exact yan
noncomputable abbrev yakc(r:(List yg)):Ex→St→Prop:=yay 0 [.tmp 6] (sl yg.c r) [] 0
noncomputable abbrev zpl(r0:ye)(kind term:Int)(rec0:Int→(List yg)→Option (List yg))(r:(List yg)):Prop:=∀ {to0:Int} {out:(List yg)},rec0 to0 out=some r→LWp Pg 35 0 ywy ⟨[(0,.bad),(1,.int .i64 kind),(2,.int .i64 term),(3,.ptr 0 0),(6,.bad),(7,.own 11 1 0 out.length false),(8,.int .i64 to0),(12,.bad),(18,.bad)],[],(zxu r0 out),2⟩ (yam 0 (yav Pg 35 0 (.seq (.reg none yaet) .ret) (yakc r)))
theorem zsv{r0:ye}{kind term to0:Int}{out_1:(List yg)}{r:(List yg)}{zao:Int→(List yg)→Option (List yg)}(ziy:zpl r0 kind term zao r)(h:zkl zao to0 out_1=some r):Wp Pg 35 0 (.reg none ybnp) ⟨[(0,.bad),(1,.int .i64 kind),(2,.int .i64 term),(3,.ptr 0 0),(6,.bad),(7,.own 11 1 0 out_1.length false),(8,.int .i64 to0),(12,.bad),(18,.bad)],[],(zxu r0 out_1),2⟩ (ydl Pg 35 0 ywy (yam 0 (yav Pg 35 0 (.seq (.reg none yaet) .ret) (yakc r)))):=by
  unfold zkl at h
  refine yh (ydk ?_)
  exact ybl [] (ziy h)
theorem zxp{r0:ye}{kind term:Int}{r:(List yg)} {zao:Int→(List yg)→Option (List yg)}(ziy:zpl r0 kind term zao r){to0:Int}{out:(List yg)}(h:zmc r0 kind term zao to0 out=some r):LWp Pg 35 0 ywy ⟨[(0,.bad),(1,.int .i64 kind),(2,.int .i64 term),(3,.ptr 0 0),(6,.bad),(7,.own 11 1 0 out.length false),(8,.int .i64 to0),(12,.bad),(18,.bad)],[],(zxu r0 out),2⟩ (yam 0 (yav Pg 35 0 (.seq (.reg none yaet) .ret) (yakc r))):=by
  unfold zmc at h
  refine LWp.stepC ywy.eq_1 ?_
  refine Wp.seq (Wp.seq (yh (yb ?_)))
  replace h:=ifS h; rcases h with ⟨g1,h⟩ | ⟨g1,h⟩
  ·refine yab (Wp.skip (yb (Wp.seq (Wp.block (Wp.seq ?_)))))
   refine yh (yb ?_)
   replace h:=ifS h; rcases h with ⟨g2,h⟩ | ⟨g2,h⟩
   ·refine yab ?_
    replace h:=yx h; obtain ⟨r0_1,g3,h⟩:=h
    replace h:=yx h; obtain ⟨r0_2,g4,h⟩:=h
    replace h:=ycw h; obtain ⟨g5,h⟩:=h
    refine yap [] yao (ybk 8 (yp (zdt g3) (yf _)) (ybk 11 (yp (zzw g4) (yf _)) (yau _))) (ybh (yb ?_))
    exact yt [.kill [12,18],.tidy] (zsv (r0:=r0) (kind:=kind) (term:=term) ziy h)
   ·refine yaa (Wp.skip (ybh (yb ?_)))
    exact yt [.kill [12,18]] (zsv (r0:=r0) (kind:=kind) (term:=term) ziy h)
  ·replace h:=yah h; subst h
   refine yaa (Wp.out (ydy (ydi (ycn (yb (Wp.seq ?_))))))
   refine yh (yb ?_)
   refine yai [.at 6 .frz] (Wp.ret ?_)
   exact yan
theorem zyz{r0:ye}{kind term:Int}{r:(List yg)}:∀ (n:Nat),zpl r0 kind term (zcr r0 kind term n) r:=by
  intro n
  induction n with
  | zero=>intro to0 out h; unfold zcr at h; cases h
  | succ n ih=>intro to0 out h; unfold zcr at h; exact zxp ih h
theorem zvt{r0:ye}{kind:Int}{term:Int}{r:(List yg)} (h:zha r0 kind term=some r):yag Pg 88 [.agg [.int .i64 r0.Id,.int .i64 r0.N,.int .i64 r0.Term,.int .i64 r0.yac,.int .i64 r0.yv,.int .i64 r0.yaf,.int .i64 r0.yj.yn,.int .i64 r0.yj.yi,sl yc.c r0.yj.Entries,.int .i64 r0.yl,sl (ci .u8) r0.yy,sl cb r0.ym,sl (ci .i64) r0.Next,sl (ci .i64) r0.yr,.int .i64 r0.yu,.int .i64 r0.yae],.int .i64 kind,.int .i64 term] [] 0 (sl yg.c r) [] 0:=by
  refine yag.intro Tryz.func88 ybnq (yad rfl) ?_
  show Wp Pg 35 0 ybdg ⟨yal _ ybdh,[],_,_⟩ (yakc r)
  unfold zha at h
  unfold ybdg
  refine yai [] ?_
  refine Wp.seq (yh (yb (Wp.seq ?_)))
  refine yh (yb (Wp.seq (Wp.seq ?_)))
  refine yh (yb (Wp.block (Wp.loop ?_)))
  exact ybl [.kill [0,6,12,18],.at 7 (.virt 11),.tidy] (zyz _ h)
noncomputable abbrev ydsz(r:(ye × (List yg))):Ex→St→Prop:=yay 0 [.cell 2 true 16,.tmp 3] (.tup [.agg [.int .i64 r.1.Id,.int .i64 r.1.N,.int .i64 r.1.Term,.int .i64 r.1.yac,.int .i64 r.1.yv,.int .i64 r.1.yaf,.int .i64 r.1.yj.yn,.int .i64 r.1.yj.yi,sl yc.c r.1.yj.Entries,.int .i64 r.1.yl,sl (ci .u8) r.1.yy,sl cb r.1.ym,sl (ci .i64) r.1.Next,sl (ci .i64) r.1.yr,.int .i64 r.1.yu,.int .i64 r.1.yae],sl yg.c r.2]) [] 0
theorem zwl{r0:ye}{r:(ye × (List yg))} (h:zie r0=some r):yag Pg 87 [.agg [.int .i64 r0.Id,.int .i64 r0.N,.int .i64 r0.Term,.int .i64 r0.yac,.int .i64 r0.yv,.int .i64 r0.yaf,.int .i64 r0.yj.yn,.int .i64 r0.yj.yi,sl yc.c r0.yj.Entries,.int .i64 r0.yl,sl (ci .u8) r0.yy,sl cb r0.ym,sl (ci .i64) r0.Next,sl (ci .i64) r0.yr,.int .i64 r0.yu,.int .i64 r0.yae]] [] 0 (.tup [.agg [.int .i64 r.1.Id,.int .i64 r.1.N,.int .i64 r.1.Term,.int .i64 r.1.yac,.int .i64 r.1.yv,.int .i64 r.1.yaf,.int .i64 r.1.yj.yn,.int .i64 r.1.yj.yi,sl yc.c r.1.yj.Entries,.int .i64 r.1.yl,sl (ci .u8) r.1.yy,sl cb r.1.ym,sl (ci .i64) r.1.Next,sl (ci .i64) r.1.yr,.int .i64 r.1.yu,.int .i64 r.1.yae],sl yg.c r.2]) [] 0:=by
  refine yag.intro Tryz.func87 ybno (yad rfl) ?_
  show Wp Pg 33 0 ybde ⟨yal _ ybdf,[],_,_⟩ (ydsz r)
  unfold zie at h
  unfold ybde
  refine yai [] ?_
  refine Wp.seq (yh (yb (Wp.seq (Wp.reg ?_))))
  replace h:=yx h; obtain ⟨r0_1,g1,h⟩:=h
  refine yew 5 (yp (zly g1) (yf _)) ?_
  refine yak (yf _) (yb (Wp.seq ?_))
  refine yh (yb (Wp.seq ?_))
  refine yh (yb (Wp.seq ?_))
  refine yh (yb (Wp.seq (Wp.reg ?_)))
  replace h:=yx h; obtain ⟨r0_2,g2,h⟩:=h
  refine yaq 5 (yp (zyo g2) (yf _)) ?_
  refine yak (yf _) (yb (Wp.seq (Wp.seq ?_)))
  refine yh (yb ?_)
  replace h:=ifS h; rcases h with ⟨g3,h⟩ | ⟨g3,h⟩
  ·refine yab (Wp.seq (Wp.reg ?_))
   replace h:=yx h; obtain ⟨r0_3,g4,h⟩:=h
   replace h:=yah h; subst h
   refine yaq 2 (yp (zxo g4) (yf _)) ?_
   refine yak (yf _) (yb (Wp.ret (yax ?_)))
   exact yan
  ·refine yaa (Wp.skip (yb (Wp.seq ?_)))
   replace h:=yx h; obtain ⟨r0_4,g5,h⟩:=h
   replace h:=yah h; subst h
   refine yap [] yao (ybk 4 (yp (zvt g5) (yf _)) (yau _)) (yb ?_)
   refine yai [.cell 2 12 .frz,.cell 2 13 .frz] (Wp.ret ?_)
   exact yan
noncomputable abbrev ydsq(r:(ye × (List yg))):Ex→St→Prop:=yay 0 [.cell 4 true 16,.tmp 5] (.tup [.agg [.int .i64 r.1.Id,.int .i64 r.1.N,.int .i64 r.1.Term,.int .i64 r.1.yac,.int .i64 r.1.yv,.int .i64 r.1.yaf,.int .i64 r.1.yj.yn,.int .i64 r.1.yj.yi,sl yc.c r.1.yj.Entries,.int .i64 r.1.yl,sl (ci .u8) r.1.yy,sl cb r.1.ym,sl (ci .i64) r.1.Next,sl (ci .i64) r.1.yr,.int .i64 r.1.yu,.int .i64 r.1.yae],sl yg.c r.2]) [] 0
theorem zact{r0:ye}{draw:Int}{r:(ye × (List yg))} (h:zpi r0 draw=some r):yag Pg 45 [.agg [.int .i64 r0.Id,.int .i64 r0.N,.int .i64 r0.Term,.int .i64 r0.yac,.int .i64 r0.yv,.int .i64 r0.yaf,.int .i64 r0.yj.yn,.int .i64 r0.yj.yi,sl yc.c r0.yj.Entries,.int .i64 r0.yl,sl (ci .u8) r0.yy,sl cb r0.ym,sl (ci .i64) r0.Next,sl (ci .i64) r0.yr,.int .i64 r0.yu,.int .i64 r0.yae],.int .i64 draw] [] 0 (.tup [.agg [.int .i64 r.1.Id,.int .i64 r.1.N,.int .i64 r.1.Term,.int .i64 r.1.yac,.int .i64 r.1.yv,.int .i64 r.1.yaf,.int .i64 r.1.yj.yn,.int .i64 r.1.yj.yi,sl yc.c r.1.yj.Entries,.int .i64 r.1.yl,sl (ci .u8) r.1.yy,sl cb r.1.ym,sl (ci .i64) r.1.Next,sl (ci .i64) r.1.yr,.int .i64 r.1.yu,.int .i64 r.1.yae],sl yg.c r.2]) [] 0:=by
  refine yag.intro Tryz.func45 ybkk (yad rfl) ?_
  show Wp Pg 38 0 ybaq ⟨yal _ ybar,[],_,_⟩ (ydsq r)
  unfold zpi at h
  unfold ybaq
  refine yai [] ?_
  refine Wp.seq (yh (yb (Wp.seq (Wp.reg ?_))))
  replace h:=yx h; obtain ⟨r0_1,g1,h⟩:=h
  refine yew 4 (yp (zly g1) (yf _)) ?_
  refine yak (yf _) (yb (Wp.seq ?_))
  refine yh (yb (Wp.seq ?_))
  refine yh (yb (Wp.seq ?_))
  refine yh (yb (Wp.seq (Wp.reg ?_)))
  replace h:=yx h; obtain ⟨r0_2,g2,h⟩:=h
  refine yaq 5 (yp (zyo g2) (yf _)) ?_
  refine yak (yf _) (yb (Wp.seq (Wp.seq ?_)))
  refine yh (yb ?_)
  replace h:=ifS h; rcases h with ⟨g3,h⟩ | ⟨g3,h⟩
  ·refine yab (Wp.seq (Wp.reg ?_))
   replace h:=yx h; obtain ⟨r0_3,g4,h⟩:=h
   replace h:=yah h; subst h
   refine yaq 2 (yp (zwl g4) (yf _)) ?_
   refine yak (yf _) (yb (Wp.ret (yax ?_)))
   exact yan
  ·refine yaa (Wp.skip (yb (Wp.seq ?_)))
   replace h:=yx h; obtain ⟨r0_4,g5,h⟩:=h
   replace h:=yah h; subst h
   refine yap [] yao (ybk 5 (yp (zvt g5) (yf _)) (yau _)) (yb ?_)
   refine yai [.cell 4 12 .frz,.cell 4 13 .frz] (Wp.ret ?_)
   exact yan
noncomputable abbrev ydsl(r:(ye × (List yg))):Ex→St→Prop:=yay 0 [.cell 4 true 16,.tmp 5] (.tup [.agg [.int .i64 r.1.Id,.int .i64 r.1.N,.int .i64 r.1.Term,.int .i64 r.1.yac,.int .i64 r.1.yv,.int .i64 r.1.yaf,.int .i64 r.1.yj.yn,.int .i64 r.1.yj.yi,sl yc.c r.1.yj.Entries,.int .i64 r.1.yl,sl (ci .u8) r.1.yy,sl cb r.1.ym,sl (ci .i64) r.1.Next,sl (ci .i64) r.1.yr,.int .i64 r.1.yu,.int .i64 r.1.yae],sl yg.c r.2]) [] 0
theorem zacl{r0:ye}{draw:Int}{r:(ye × (List yg))} (h:zqe r0 draw=some r):yag Pg 17 [.agg [.int .i64 r0.Id,.int .i64 r0.N,.int .i64 r0.Term,.int .i64 r0.yac,.int .i64 r0.yv,.int .i64 r0.yaf,.int .i64 r0.yj.yn,.int .i64 r0.yj.yi,sl yc.c r0.yj.Entries,.int .i64 r0.yl,sl (ci .u8) r0.yy,sl cb r0.ym,sl (ci .i64) r0.Next,sl (ci .i64) r0.yr,.int .i64 r0.yu,.int .i64 r0.yae],.int .i64 draw] [] 0 (.tup [.agg [.int .i64 r.1.Id,.int .i64 r.1.N,.int .i64 r.1.Term,.int .i64 r.1.yac,.int .i64 r.1.yv,.int .i64 r.1.yaf,.int .i64 r.1.yj.yn,.int .i64 r.1.yj.yi,sl yc.c r.1.yj.Entries,.int .i64 r.1.yl,sl (ci .u8) r.1.yy,sl cb r.1.ym,sl (ci .i64) r.1.Next,sl (ci .i64) r.1.yr,.int .i64 r.1.yu,.int .i64 r.1.yae],sl yg.c r.2]) [] 0:=by
  refine yag.intro Tryz.func17 ybiw (yad rfl) ?_
  show Wp Pg 34 0 yazk ⟨yal _ yazl,[],_,_⟩ (ydsl r)
  unfold zqe at h
  unfold yazk
  refine yai [] ?_
  refine Wp.seq (yh (yb (Wp.seq ?_)))
  refine yh (yb (Wp.seq ?_))
  refine yh (yb (Wp.seq (Wp.seq ?_)))
  refine yh (yb ?_)
  replace h:=ifS h; rcases h with ⟨g1,h⟩ | ⟨g1,h⟩
  ·refine yab (Wp.seq (Wp.seq ?_))
   refine yh (yb ?_)
   replace h:=ifS h; rcases h with ⟨g2,h⟩ | ⟨g2,h⟩
   ·refine yab (Wp.seq (Wp.reg ?_))
    replace h:=yx h; obtain ⟨r0_1,g3,h⟩:=h
    replace h:=yah h; subst h
    refine yaq 3 (yp (zact g3) (yf _)) ?_
    refine yak (yf _) (yb (Wp.ret (yax (yax ?_))))
    exact yan
   ·replace h:=yah h; subst h
    refine yaa (Wp.skip (yb (Wp.seq ?_)))
    refine yh (yb ?_)
    refine yai [.at 5 .frz] (Wp.ret (yax ?_))
    exact yan
  ·refine yaa (Wp.skip (yb (Wp.seq (Wp.seq ?_))))
   refine yh (yb ?_)
   replace h:=ifS h; rcases h with ⟨g4,h⟩ | ⟨g4,h⟩
   ·replace h:=yah h; subst h
    refine yab (Wp.seq ?_)
    refine yh (yb ?_)
    refine yai [.at 5 .frz] (Wp.ret (yax ?_))
    exact yan
   ·refine yaa (Wp.skip (yb (Wp.seq ?_)))
    refine yh (yb (Wp.seq ?_))
    replace h:=yx h; obtain ⟨r0_2,g5,h⟩:=h
    replace h:=yah h; subst h
    refine yap [] yao (ybk 2 (yp (zuk g5) (yf _)) (yau _)) (yb (Wp.ret ?_))
    exact yan
noncomputable abbrev yakd(r:Bool):Ex→St→Prop:=yay 0 [.tmp 4] (.bool r) [] 0
noncomputable abbrev zoi(a b:(List yc))(rec0:Int→Option Bool)(r:Bool):Prop:=∀ {i:Int},rec0 i=some r→LWp Pg 43 0 ywz ⟨[(0,sl yc.c a),(1,sl yc.c b),(4,.bad),(5,.int .i64 i),(10,.bad),(14,.bad),(42,.bad)],[],[],0⟩ (yam 0 (yav Pg 43 0 (.seq (.reg none yaeu) .ret) (yakd r)))
theorem zsf{a b:(List yc)}{i:Int}{v42:Bool}{r:Bool}{zae:Int→Option Bool}(zif:zoi a b zae r)(h:zjf zae i v42=some r):Wp Pg 43 0 (.cond (.t 42) (.seq (.reg none yboj) .ret) .skip) ⟨[(0,sl yc.c a),(1,sl yc.c b),(4,.bad),(5,.int .i64 i),(10,.bad),(14,.bad),(42,.bool v42)],[],[],0⟩ (yam 1 (yav Pg 43 0 (.reg none ybok) (ydl Pg 43 0 ywz (yam 0 (yav Pg 43 0 (.seq (.reg none yaeu) .ret) (yakd r)))))):=by
  unfold zjf at h
  replace h:=ifS h; rcases h with ⟨g6,h⟩ | ⟨g6,h⟩
  ·replace h:=yah h; subst h
   refine yab (Wp.seq ?_)
   refine yh (yb (Wp.ret (ybn (yax (ymi (ybn (yax ?_)))))))
   exact yan
  ·refine yaa (Wp.skip (ybh (yb ?_)))
   refine yh (ydk ?_)
   exact ybl [.kill [42]] (zif h)
theorem zwr{a b:(List yc)}{r:Bool} {zae:Int→Option Bool}(zif:zoi a b zae r){i:Int}(h:zhp a b zae i=some r):LWp Pg 43 0 ywz ⟨[(0,sl yc.c a),(1,sl yc.c b),(4,.bad),(5,.int .i64 i),(10,.bad),(14,.bad),(42,.bad)],[],[],0⟩ (yam 0 (yav Pg 43 0 (.seq (.reg none yaeu) .ret) (yakd r))):=by
  unfold zhp at h
  refine LWp.stepC ywz.eq_1 ?_
  refine Wp.seq (Wp.seq (yh (yb ?_)))
  replace h:=ifS h; rcases h with ⟨g2,h⟩ | ⟨g2,h⟩
  ·refine yab (Wp.skip (yb (Wp.seq (Wp.block (Wp.seq ?_)))))
   replace h:=yx h; obtain ⟨e,g3,h⟩:=h
   replace h:=yx h; obtain ⟨e_1,g4,h⟩:=h
   replace h:=ifS h; rcases h with ⟨g5,h⟩ | ⟨g5,h⟩
   ·refine yap [] yao (yau _) (yb ?_)
    exact yt [.kill [14],.tidy] (zsf (a:=a) (b:=b) zif h)
   ·refine yap [] yao (yau _) (yb ?_)
    exact yt [.kill [14],.tidy] (zsf (a:=a) (b:=b) zif h)
  ·replace h:=yah h; subst h
   refine yaa (Wp.out (ydy (ydi (ycn (yb (Wp.seq ?_))))))
   refine yh (yb (Wp.ret ?_))
   exact yan
theorem zye{a b:(List yc)}{r:Bool}:∀ (n:Nat),zoi a b (zcz a b n) r:=by
  intro n
  induction n with
  | zero=>intro i h; unfold zcz at h; cases h
  | succ n ih=>intro i h; unfold zcz at h; exact zwr ih h
theorem zuc{a:(List yc)}{b:(List yc)}{r:Bool} (h:zju a b=some r):yag Pg 90 [sl yc.c a,sl yc.c b] [] 0 (.bool r) [] 0:=by
  refine yag.intro Tryz.func90 ybol (yad rfl) ?_
  show Wp Pg 43 0 ybdk ⟨yal _ ybdl,[],_,_⟩ (yakd r)
  unfold zju at h
  unfold ybdk
  refine yai [] ?_
  refine Wp.seq (yh (yb (Wp.seq (Wp.seq ?_))))
  refine yh (yb ?_)
  replace h:=ifS h; rcases h with ⟨g1,h⟩ | ⟨g1,h⟩
  ·replace h:=yah h; subst h
   refine yab (Wp.seq ?_)
   refine yh (yb (Wp.ret (yax ?_)))
   exact yan
  ·refine yaa (Wp.skip (yb (Wp.seq (Wp.seq ?_))))
   refine yh (yb (Wp.block (Wp.loop ?_)))
   exact ybl [.kill [4,10,14,42]] (zye _ h)
noncomputable abbrev ydsr(r:Bool):Ex→St→Prop:=yay 0 [.tmp 4] (.bool r) [] 0
theorem zacj{a:yz}{b:yz}{r:Bool} (h:zry a b=some r):yag Pg 47 [.agg [.int .i64 a.yn,.int .i64 a.yi,sl yc.c a.Entries],.agg [.int .i64 b.yn,.int .i64 b.yi,sl yc.c b.Entries]] [] 0 (.bool r) [] 0:=by
  refine yag.intro Tryz.func47 ybkn (yad rfl) ?_
  show Wp Pg 24 0 ybau ⟨yal _ ybav,[],_,_⟩ (ydsr r)
  unfold zry at h
  unfold ybau
  refine yai [] ?_
  refine Wp.seq (yh (yb (Wp.seq (Wp.reg ?_))))
  replace h:=ifS h; rcases h with ⟨g1,h⟩ | ⟨g1,h⟩
  ·replace h:=ifS h; rcases h with ⟨g2,h⟩ | ⟨g2,h⟩
   ·replace h:=yx h; obtain ⟨r0,g3,h⟩:=h
    replace h:=yah h; subst h
    refine yaq 18 (yp (zuc g3) (yf _)) ?_
    refine yak (yf _) (yb (Wp.ret ?_))
    exact yan
   ·replace h:=yah h; subst h
    refine yak (yf _) (yb (Wp.ret ?_))
    exact yan
  ·replace h:=yah h; subst h
   refine yak (yf _) (yb (Wp.ret ?_))
   exact yan
noncomputable abbrev ybex(r:Bool):Ex→St→Prop:=yay 0 [.tmp 4] (.bool r) [] 0
noncomputable abbrev ztg(a b:(List Bool))(rec0:Int→Option Bool)(r:Bool):Prop:=∀ {i:Int},rec0 i=some r→LWp Pg 26 0 yaee ⟨[(0,sl cb a),(1,sl cb b),(4,.bad),(5,.int .i64 i),(10,.bad),(14,.bad),(25,.bad)],[],[],0⟩ (yam 0 (yav Pg 26 0 (.seq (.reg none yaoo) .ret) (ybex r)))
theorem zyi{a b:(List Bool)}{r:Bool} {zlc:Int→Option Bool}(zwy:ztg a b zlc r){i:Int}(h:zjk a b zlc i=some r):LWp Pg 26 0 yaee ⟨[(0,sl cb a),(1,sl cb b),(4,.bad),(5,.int .i64 i),(10,.bad),(14,.bad),(25,.bad)],[],[],0⟩ (yam 0 (yav Pg 26 0 (.seq (.reg none yaoo) .ret) (ybex r))):=by
  unfold zjk at h
  refine LWp.stepC yaee.eq_1 ?_
  refine Wp.seq (Wp.seq (yh (yb ?_)))
  replace h:=ifS h; rcases h with ⟨g2,h⟩ | ⟨g2,h⟩
  ·refine yab (Wp.skip (yb (Wp.seq (Wp.block (Wp.seq ?_)))))
   replace h:=yx h; obtain ⟨e,g3,h⟩:=h
   replace h:=yx h; obtain ⟨e_1,g4,h⟩:=h
   refine yap [] yao (yau _) (yb ?_)
   replace h:=ifS h; rcases h with ⟨g5,h⟩ | ⟨g5,h⟩
   ·refine yaa (Wp.skip (ybh (yb ?_)))
    refine yh (ydk ?_)
    exact ybl [.kill [14,25],.tidy] (zwy h)
   ·replace h:=yah h; subst h
    refine yab (Wp.seq ?_)
    refine yh (yb (Wp.ret (ybn (yax (ymi (ybn (yax ?_)))))))
    exact yan
  ·replace h:=yah h; subst h
   refine yaa (Wp.out (ydy (ydi (ycn (yb (Wp.seq ?_))))))
   refine yh (yb (Wp.ret ?_))
   exact yan
theorem zzv{a b:(List Bool)}{r:Bool}:∀ (n:Nat),ztg a b (zew a b n) r:=by
  intro n
  induction n with
  | zero=>intro i h; unfold zew at h; cases h
  | succ n ih=>intro i h; unfold zew at h; exact zyi ih h
theorem zacd{a:(List Bool)}{b:(List Bool)}{r:Bool} (h:zpa a b=some r):yag Pg 48 [sl cb a,sl cb b] [] 0 (.bool r) [] 0:=by
  refine yag.intro Tryz.func48 ybko (yad rfl) ?_
  show Wp Pg 26 0 ybaw ⟨yal _ ybax,[],_,_⟩ (ybex r)
  unfold zpa at h
  unfold ybaw
  refine yai [] ?_
  refine Wp.seq (yh (yb (Wp.seq (Wp.seq ?_))))
  refine yh (yb ?_)
  replace h:=ifS h; rcases h with ⟨g1,h⟩ | ⟨g1,h⟩
  ·replace h:=yah h; subst h
   refine yab (Wp.seq ?_)
   refine yh (yb (Wp.ret (yax ?_)))
   exact yan
  ·refine yaa (Wp.skip (yb (Wp.seq (Wp.seq ?_))))
   refine yh (yb (Wp.block (Wp.loop ?_)))
   exact ybl [.kill [4,10,14,25]] (zzv _ h)
noncomputable abbrev ybey(r:Bool):Ex→St→Prop:=yay 0 [.tmp 4] (.bool r) [] 0
noncomputable abbrev ztt(a b:(List Int))(rec0:Int→Option Bool)(r:Bool):Prop:=∀ {i:Int},rec0 i=some r→LWp Pg 26 0 yaef ⟨[(0,sl (ci .i64) a),(1,sl (ci .i64) b),(4,.bad),(5,.int .i64 i),(10,.bad),(14,.bad),(25,.bad)],[],[],0⟩ (yam 0 (yav Pg 26 0 (.seq (.reg none yaop) .ret) (ybey r)))
theorem zyx{a b:(List Int)}{r:Bool} {zmf:Int→Option Bool}(zxs:ztt a b zmf r){i:Int}(h:zkj a b zmf i=some r):LWp Pg 26 0 yaef ⟨[(0,sl (ci .i64) a),(1,sl (ci .i64) b),(4,.bad),(5,.int .i64 i),(10,.bad),(14,.bad),(25,.bad)],[],[],0⟩ (yam 0 (yav Pg 26 0 (.seq (.reg none yaop) .ret) (ybey r))):=by
  unfold zkj at h
  refine LWp.stepC yaef.eq_1 ?_
  refine Wp.seq (Wp.seq (yh (yb ?_)))
  replace h:=ifS h; rcases h with ⟨g2,h⟩ | ⟨g2,h⟩
  ·refine yab (Wp.skip (yb (Wp.seq (Wp.block (Wp.seq ?_)))))
   replace h:=yx h; obtain ⟨e,g3,h⟩:=h
   replace h:=yx h; obtain ⟨e_1,g4,h⟩:=h
   refine yap [] yao (yau _) (yb ?_)
   replace h:=ifS h; rcases h with ⟨g5,h⟩ | ⟨g5,h⟩
   ·replace h:=yah h; subst h
    refine yab (Wp.seq ?_)
    refine yh (yb (Wp.ret (ybn (yax (ymi (ybn (yax ?_)))))))
    exact yan
   ·refine yaa (Wp.skip (ybh (yb ?_)))
    refine yh (ydk ?_)
    exact ybl [.kill [14,25],.tidy] (zxs h)
  ·replace h:=yah h; subst h
   refine yaa (Wp.out (ydy (ydi (ycn (yb (Wp.seq ?_))))))
   refine yh (yb (Wp.ret ?_))
   exact yan
theorem zaax{a b:(List Int)}{r:Bool}:∀ (n:Nat),ztt a b (zfv a b n) r:=by
  intro n
  induction n with
  | zero=>intro i h; unfold zfv at h; cases h
  | succ n ih=>intro i h; unfold zfv at h; exact zyx ih h
theorem zxn{a:(List Int)}{b:(List Int)}{r:Bool} (h:zod a b=some r):yag Pg 49 [sl (ci .i64) a,sl (ci .i64) b] [] 0 (.bool r) [] 0:=by
  refine yag.intro Tryz.func49 ybkp (yad rfl) ?_
  show Wp Pg 26 0 ybay ⟨yal _ ybaz,[],_,_⟩ (ybey r)
  unfold zod at h
  unfold ybay
  refine yai [] ?_
  refine Wp.seq (yh (yb (Wp.seq (Wp.seq ?_))))
  refine yh (yb ?_)
  replace h:=ifS h; rcases h with ⟨g1,h⟩ | ⟨g1,h⟩
  ·replace h:=yah h; subst h
   refine yab (Wp.seq ?_)
   refine yh (yb (Wp.ret (yax ?_)))
   exact yan
  ·refine yaa (Wp.skip (yb (Wp.seq (Wp.seq ?_))))
   refine yh (yb (Wp.block (Wp.loop ?_)))
   exact ybl [.kill [4,10,14,25]] (zaax _ h)
noncomputable abbrev ybeu(r:Bool):Ex→St→Prop:=yay 0 [.tmp 4] (.bool r) [] 0
theorem znr{a b:ye}{v72:Bool}{r:Bool} (h:zht a b v72=some r):Wp Pg 99 0 (.cond (.t 72) (.seq (.reg none yaof) .ret) .skip) ⟨[(0,.bad),(1,.bad),(2,.ptr 0 0),(3,.ptr 1 0),(4,.bad),(44,.bad),(72,.bool v72)],[],(zacz a b),2⟩ (yav Pg 99 0 (.seq (.reg none yaog) .ret) (ybeu r)):=by
  unfold zht at h
  replace h:=ifS h; rcases h with ⟨g10,h⟩ | ⟨g10,h⟩
  ·replace h:=yah h; subst h
   refine yab (Wp.seq ?_)
   refine yh (yb (Wp.ret (yax ?_)))
   exact yan
  ·refine yaa (Wp.skip (yb (Wp.seq (Wp.reg ?_))))
   replace h:=yx h; obtain ⟨r0,g11,h⟩:=h
   refine yaq 5 (yp (zacj g11) (yf _)) ?_
   replace h:=ifS h; rcases h with ⟨g12,h⟩ | ⟨g12,h⟩
   ·replace h:=yx h; obtain ⟨r0_1,g13,h⟩:=h
    refine yaq 6 (yp (zacd g13) (yf _)) ?_
    replace h:=ifS h; rcases h with ⟨g14,h⟩ | ⟨g14,h⟩
    ·replace h:=yx h; obtain ⟨r0_2,g15,h⟩:=h
     refine yaq 7 (yp (zxn g15) (yf _)) ?_
     replace h:=ifS h; rcases h with ⟨g16,h⟩ | ⟨g16,h⟩
     ·replace h:=yx h; obtain ⟨r0_3,g17,h⟩:=h
      replace h:=yah h; subst h
      refine yaq 7 (yp (zxn g17) (yf _)) ?_
      refine yak (yf _) (yb (Wp.ret ?_))
      exact yan
     ·replace h:=yah h; subst h
      refine yak (yf _) (yb (Wp.ret ?_))
      exact yan
    ·replace h:=yah h; subst h
     refine yak (yf _) (yb (Wp.ret ?_))
     exact yan
   ·replace h:=yah h; subst h
    refine yak (yf _) (yb (Wp.ret ?_))
    exact yan
theorem zib{a b:ye}{v44:Bool}{r:Bool} (h:zdz a b v44=some r):Wp Pg 99 0 (.cond (.t 44) (.seq (.reg none ybix) .ret) .skip) ⟨[(0,.bad),(1,.bad),(2,.ptr 0 0),(3,.ptr 1 0),(4,.bad),(44,.bool v44),(72,.bad)],[],(zacz a b),2⟩ (yav Pg 99 0 (.seq (.seq (.reg none ybiy) (.cond (.t 72) (.seq (.reg none yaof) .ret) .skip)) (.seq (.reg none yaog) .ret)) (ybeu r)):=by
  unfold zdz at h
  replace h:=ifS h; rcases h with ⟨g6,h⟩ | ⟨g6,h⟩
  ·replace h:=yah h; subst h
   refine yab (Wp.seq ?_)
   refine yh (yb (Wp.ret (yax ?_)))
   exact yan
  ·refine yaa (Wp.skip (yb (Wp.seq (Wp.seq ?_))))
   replace h:=ifS h; rcases h with ⟨g7,h⟩ | ⟨g7,h⟩
   ·refine yh (yb ?_)
    exact yt [.kill [44]] (znr h)
   ·replace h:=ifS h; rcases h with ⟨g8,h⟩ | ⟨g8,h⟩
    ·refine yh (yb ?_)
     exact yt [.kill [44]] (znr h)
    ·replace h:=ifS h; rcases h with ⟨g9,h⟩ | ⟨g9,h⟩
     ·refine yh (yb ?_)
      exact yt [.kill [44]] (znr h)
     ·refine yh (yb ?_)
      exact yt [.kill [44]] (znr h)
theorem zog{a:ye}{b:ye}{r:Bool} (h:zdp a b=some r):yag Pg 18 [.agg [.int .i64 a.Id,.int .i64 a.N,.int .i64 a.Term,.int .i64 a.yac,.int .i64 a.yv,.int .i64 a.yaf,.int .i64 a.yj.yn,.int .i64 a.yj.yi,sl yc.c a.yj.Entries,.int .i64 a.yl,sl (ci .u8) a.yy,sl cb a.ym,sl (ci .i64) a.Next,sl (ci .i64) a.yr,.int .i64 a.yu,.int .i64 a.yae],.agg [.int .i64 b.Id,.int .i64 b.N,.int .i64 b.Term,.int .i64 b.yac,.int .i64 b.yv,.int .i64 b.yaf,.int .i64 b.yj.yn,.int .i64 b.yj.yi,sl yc.c b.yj.Entries,.int .i64 b.yl,sl (ci .u8) b.yy,sl cb b.ym,sl (ci .i64) b.Next,sl (ci .i64) b.yr,.int .i64 b.yu,.int .i64 b.yae]] [] 0 (.bool r) [] 0:=by
  refine yag.intro Tryz.func18 ybiz (yad rfl) ?_
  show Wp Pg 99 0 yazm ⟨yal _ yazn,[],_,_⟩ (ybeu r)
  unfold zdp at h
  unfold yazm
  refine yai [] ?_
  refine Wp.seq (yh (yb (Wp.seq (Wp.seq ?_))))
  replace h:=ifS h; rcases h with ⟨g1,h⟩ | ⟨g1,h⟩
  ·refine yh (yb ?_)
   exact yt [.kill [0,1,4,72],.tidy] (zib h)
  ·replace h:=ifS h; rcases h with ⟨g2,h⟩ | ⟨g2,h⟩
   ·refine yh (yb ?_)
    exact yt [.kill [0,1,4,72],.tidy] (zib h)
   ·replace h:=ifS h; rcases h with ⟨g3,h⟩ | ⟨g3,h⟩
    ·refine yh (yb ?_)
     exact yt [.kill [0,1,4,72],.tidy] (zib h)
    ·replace h:=ifS h; rcases h with ⟨g4,h⟩ | ⟨g4,h⟩
     ·refine yh (yb ?_)
      exact yt [.kill [0,1,4,72],.tidy] (zib h)
     ·replace h:=ifS h; rcases h with ⟨g5,h⟩ | ⟨g5,h⟩
      ·refine yh (yb ?_)
       exact yt [.kill [0,1,4,72],.tidy] (zib h)
      ·refine yh (yb ?_)
       exact yt [.kill [0,1,4,72],.tidy] (zib h)
noncomputable abbrev ycde(r:Bool):Ex→St→Prop:=yay 0 [.tmp 4] (.bool r) [] 0
theorem zbi{a b:yg}{v65:Bool}{r:Bool} (h:zal a b v65=some r):Wp Pg 80 0 (.cond (.t 65) (.seq (.reg none ybkq) .ret) .skip) ⟨[(0,.bad),(1,.bad),(2,.ptr 0 0),(3,.ptr 1 0),(4,.bad),(65,.bool v65)],[],(zadl a b),2⟩ (yav Pg 80 0 (.seq (.reg none ybkr) .ret) (ycde r)):=by
  unfold zal at h
  replace h:=ifS h; rcases h with ⟨g9,h⟩ | ⟨g9,h⟩
  ·replace h:=yah h; subst h
   refine yab (Wp.seq ?_)
   refine yh (yb (Wp.ret (yax ?_)))
   exact yan
  ·refine yaa (Wp.skip (yb (Wp.seq (Wp.reg ?_))))
   replace h:=yx h; obtain ⟨r0,g10,h⟩:=h
   refine yaq 5 (yp (zuc g10) (yf _)) ?_
   replace h:=ifS h; rcases h with ⟨g11,h⟩ | ⟨g11,h⟩
   ·replace h:=yah h; subst h
    refine yak (yf _) (yb (Wp.ret ?_))
    exact yan
   ·replace h:=yah h; subst h
    refine yak (yf _) (yb (Wp.ret ?_))
    exact yan
theorem zaav{a:yg}{b:yg}{r:Bool} (h:zne a b=some r):yag Pg 50 [.agg [.int .i64 a.yar,.int .i64 a.yct,.int .i64 a.From,.int .i64 a.To,.int .i64 a.Term,.int .i64 a.At,.int .i64 a.ybd,.int .i64 a.yl,.bool a.Ok,sl yc.c a.Entries,sl (ci .u8) a.ybq],.agg [.int .i64 b.yar,.int .i64 b.yct,.int .i64 b.From,.int .i64 b.To,.int .i64 b.Term,.int .i64 b.At,.int .i64 b.ybd,.int .i64 b.yl,.bool b.Ok,sl yc.c b.Entries,sl (ci .u8) b.ybq]] [] 0 (.bool r) [] 0:=by
  refine yag.intro Tryz.func50 ybks (yad rfl) ?_
  show Wp Pg 80 0 ybbb ⟨yal _ ybbc,[],_,_⟩ (ycde r)
  unfold zne at h
  unfold ybbb
  refine yai [] ?_
  refine Wp.seq (yh (yb (Wp.seq (Wp.seq ?_))))
  replace h:=ifS h; rcases h with ⟨g1,h⟩ | ⟨g1,h⟩
  ·refine yh (yb ?_)
   exact yt [.kill [0,1,4],.tidy] (zbi h)
  ·replace h:=ifS h; rcases h with ⟨g2,h⟩ | ⟨g2,h⟩
   ·refine yh (yb ?_)
    exact yt [.kill [0,1,4],.tidy] (zbi h)
   ·replace h:=ifS h; rcases h with ⟨g3,h⟩ | ⟨g3,h⟩
    ·refine yh (yb ?_)
     exact yt [.kill [0,1,4],.tidy] (zbi h)
    ·replace h:=ifS h; rcases h with ⟨g4,h⟩ | ⟨g4,h⟩
     ·refine yh (yb ?_)
      exact yt [.kill [0,1,4],.tidy] (zbi h)
     ·replace h:=ifS h; rcases h with ⟨g5,h⟩ | ⟨g5,h⟩
      ·refine yh (yb ?_)
       exact yt [.kill [0,1,4],.tidy] (zbi h)
      ·replace h:=ifS h; rcases h with ⟨g6,h⟩ | ⟨g6,h⟩
       ·refine yh (yb ?_)
        exact yt [.kill [0,1,4],.tidy] (zbi h)
       ·replace h:=ifS h; rcases h with ⟨g7,h⟩ | ⟨g7,h⟩
        ·refine yh (yb ?_)
         exact yt [.kill [0,1,4],.tidy] (zbi h)
        ·replace h:=ifS h; rcases h with ⟨g8,h⟩ | ⟨g8,h⟩
         ·refine yh (yb ?_)
          exact yt [.kill [0,1,4],.tidy] (zbi h)
         ·refine yh (yb ?_)
          exact yt [.kill [0,1,4],.tidy] (zbi h)
noncomputable abbrev ybev(r:Bool):Ex→St→Prop:=yay 0 [.tmp 4] (.bool r) [] 0
noncomputable abbrev zrt(a b:(List yg))(rec0:Int→Option Bool)(r:Bool):Prop:=∀ {i:Int},rec0 i=some r→LWp Pg 27 0 yadt ⟨[(0,sl yg.c a),(1,sl yg.c b),(4,.bad),(5,.int .i64 i),(10,.bad),(14,.bad),(26,.bad)],[],[],0⟩ (yam 0 (yav Pg 27 0 (.seq (.reg none yaoh) .ret) (ybev r)))
theorem zwb{a b:(List yg)}{r:Bool} {zio:Int→Option Bool}(zvc:zrt a b zio r){i:Int}(h:zgx a b zio i=some r):LWp Pg 27 0 yadt ⟨[(0,sl yg.c a),(1,sl yg.c b),(4,.bad),(5,.int .i64 i),(10,.bad),(14,.bad),(26,.bad)],[],[],0⟩ (yam 0 (yav Pg 27 0 (.seq (.reg none yaoh) .ret) (ybev r))):=by
  unfold zgx at h
  refine LWp.stepC yadt.eq_1 ?_
  refine Wp.seq (Wp.seq (yh (yb ?_)))
  replace h:=ifS h; rcases h with ⟨g2,h⟩ | ⟨g2,h⟩
  ·refine yab (Wp.skip (yb (Wp.seq (Wp.block (Wp.seq ?_)))))
   replace h:=yx h; obtain ⟨e,g3,h⟩:=h
   replace h:=yx h; obtain ⟨e_1,g4,h⟩:=h
   replace h:=yx h; obtain ⟨r0,g5,h⟩:=h
   refine yap [] yao (ybk 8 (yp (zaav g5) (yf _)) (yau _)) (yb ?_)
   replace h:=ifS h; rcases h with ⟨g6,h⟩ | ⟨g6,h⟩
   ·refine yaa (Wp.skip (ybh (yb ?_)))
    refine yh (ydk ?_)
    exact ybl [.kill [14,26],.tidy] (zvc h)
   ·replace h:=yah h; subst h
    refine yab (Wp.seq ?_)
    refine yh (yb (Wp.ret (ybn (yax (ymi (ybn (yax ?_)))))))
    exact yan
  ·replace h:=yah h; subst h
   refine yaa (Wp.out (ydy (ydi (ycn (yb (Wp.seq ?_))))))
   refine yh (yb (Wp.ret ?_))
   exact yan
theorem zxm{a b:(List yg)}{r:Bool}:∀ (n:Nat),zrt a b (zcq a b n) r:=by
  intro n
  induction n with
  | zero=>intro i h; unfold zcq at h; cases h
  | succ n ih=>intro i h; unfold zcq at h; exact zwb ih h
theorem zqk{a:(List yg)}{b:(List yg)}{r:Bool} (h:zdj a b=some r):yag Pg 19 [sl yg.c a,sl yg.c b] [] 0 (.bool r) [] 0:=by
  refine yag.intro Tryz.func19 ybja (yad rfl) ?_
  show Wp Pg 27 0 yazo ⟨yal _ yazp,[],_,_⟩ (ybev r)
  unfold zdj at h
  unfold yazo
  refine yai [] ?_
  refine Wp.seq (yh (yb (Wp.seq (Wp.seq ?_))))
  refine yh (yb ?_)
  replace h:=ifS h; rcases h with ⟨g1,h⟩ | ⟨g1,h⟩
  ·replace h:=yah h; subst h
   refine yab (Wp.seq ?_)
   refine yh (yb (Wp.ret (yax ?_)))
   exact yan
  ·refine yaa (Wp.skip (yb (Wp.seq (Wp.seq ?_))))
   refine yh (yb (Wp.block (Wp.loop ?_)))
   exact ybl [.kill [4,10,14,26]] (zxm _ h)
noncomputable abbrev yvf(r:(ye × (List yg))):Ex→St→Prop:=yay 0 [.cell 4 true 16,.tmp 5] (.tup [.agg [.int .i64 r.1.Id,.int .i64 r.1.N,.int .i64 r.1.Term,.int .i64 r.1.yac,.int .i64 r.1.yv,.int .i64 r.1.yaf,.int .i64 r.1.yj.yn,.int .i64 r.1.yj.yi,sl yc.c r.1.yj.Entries,.int .i64 r.1.yl,sl (ci .u8) r.1.yy,sl cb r.1.ym,sl (ci .i64) r.1.Next,sl (ci .i64) r.1.yr,.int .i64 r.1.yu,.int .i64 r.1.yae],sl yg.c r.2]) [] 0
theorem zbe{zabl zabm zabn zabo zabp zabq zabr zabs:Int}{zabt:(List yc)}{zabu zaac zaad:Int}{zzy:(List Int)}{zzz:(List Bool)}{zaaa zaab:(List Int)}{zaae:(List yg)}{r:(ye × (List yg))} (h:zas zabl zabm zabn zabo zabp zabq zabr zabs zabt zabu zaac zaad zzy zzz zaaa zaab zaae=some r):Wp Pg 180 0 (.seq (.reg none ynd) .ret) ⟨[(0,.bad),(1,.bad),(2,.bad),(3,.bad),(4,.ptr 0 0),(5,.bad),(6,.ptr 1 0),(56,.bad),(83,.bad),(89,.bad),(90,.bad),(95,.bad),(123,.bad),(126,.bad),(131,.bad),(158,.bad),(161,.bad),(166,.bad),(171,.bad)],[],(hp90 (0:Int) (0:Int) (0:Int) (0:Int) (0:Int) (0:Int) (0:Int) (0:Int) (0:Int) (0:Int) (0:Int) zabl zabm zabn zabo zabp zabq zabr zabs zabt zabu zzy zzz zaaa zaab zaac zaad zaae),7⟩ (yvf r):=by
  unfold zas at h
  refine Wp.seq (Wp.reg ?_)
  replace h:=yx h; obtain ⟨r0_13,g39,h⟩:=h
  replace h:=yah h; subst h
  refine yew 2 (yp (zon g39) (yf _)) ?_
  refine yak (yf _) (yb ?_)
  refine yai [.cell 4 10 .frz,.cell 4 11 .frz,.cell 4 12 .frz,.cell 4 13 .frz,.at 5 .frz] (Wp.ret ?_)
  exact yan
theorem zmj{v158:Bool}{zzb zzc zzd zze zzf zzg zzh zzi zzk zxd zxe:Int}{zzj:(List yc)}{zwz:(List Int)}{zxa:(List Bool)}{zxb zxc:(List Int)}{zxf:(List yg)}{r:(ye × (List yg))} (h:zfp v158 zzb zzc zzd zze zzf zzg zzh zzi zzk zxd zxe zzj zwz zxa zxb zxc zxf=some r):Wp Pg 180 0 (.cond (.t 158) (.reg none ytk) .skip) ⟨[(0,.bad),(1,.bad),(2,.bad),(3,.bad),(4,.ptr 0 0),(5,.bad),(6,.ptr 1 0),(56,.bad),(83,.bad),(89,.bad),(90,.bad),(95,.bad),(123,.bad),(126,.bad),(131,.bad),(158,.bool v158),(161,.bad),(166,.bad),(171,.bad)],[],(hp8 (0:Int) (0:Int) (0:Int) (0:Int) (0:Int) (0:Int) (0:Int) (0:Int) (0:Int) (0:Int) (0:Int) zzb zzc zzd zze zzf zzg zzh zzi zzj zzk zwz zxa zxb zxc zxd zxe zxf),8⟩ (yam 0 (yav Pg 180 0 (.seq (.reg none ynd) .ret) (yvf r))):=by
  unfold zfp at h
  replace h:=ifS h; rcases h with ⟨g31,h⟩ | ⟨g31,h⟩
  ·refine yab (Wp.reg ?_)
   replace h:=yx h; obtain ⟨r0_9,g32,h⟩:=h
   refine ycy (yp (zvz g32) (yf _)) (ybh (yb ?_))
   exact yt [.kill [158],.tidy] (zbe h)
  ·refine yaa (Wp.skip (ybh (yb ?_)))
   exact yt [.kill [158],.cell 6 8 .frz,.tidy] (zbe h)
theorem zmi{v123:Bool}{zbw zbx zby zbz zca zcb zcc zcd zcf zax zay:Int}{zce:(List yc)}{zau:(List Int)}{zav:(List Bool)}{zw zaw:(List Int)}{zaz:(List yg)}{r:(ye × (List yg))} (h:zdv v123 zbw zbx zby zbz zca zcb zcc zcd zcf zax zay zce zau zav zw zaw zaz=some r):Wp Pg 180 0 (.cond (.t 123) (.reg none ytj) .skip) ⟨[(0,.bad),(1,.bad),(2,.bad),(3,.bad),(4,.ptr 0 0),(5,.bad),(6,.ptr 1 0),(56,.bad),(83,.bad),(89,.bad),(90,.bad),(95,.bad),(123,.bool v123),(126,.bad),(131,.bad),(158,.bad),(161,.bad),(166,.bad),(171,.bad)],[],(hp8 (0:Int) (0:Int) (0:Int) (0:Int) (0:Int) (0:Int) (0:Int) (0:Int) (0:Int) (0:Int) (0:Int) zbw zbx zby zbz zca zcb zcc zcd zce zcf zau zav zw zaw zax zay zaz),8⟩ (yam 0 (yav Pg 180 0 (.seq (.reg none ynd) .ret) (yvf r))):=by
  unfold zdv at h
  replace h:=ifS h; rcases h with ⟨g22,h⟩ | ⟨g22,h⟩
  ·refine yab (Wp.reg ?_)
   replace h:=yx h; obtain ⟨r0_6,g23,h⟩:=h
   refine ycy (yp (zvm g23) (yf _)) (ybh (yb ?_))
   exact yt [.kill [123],.tidy] (zbe h)
  ·refine yaa (Wp.skip (ybh (yb ?_)))
   exact yt [.kill [123],.cell 6 8 .frz,.tidy] (zbe h)
theorem zsu{x0:yg}{m_00 m_10 m_20 m_30 m_40 m_50 m_60 m_70 m_90 ze zh:Int}{m_80:(List yc)}{zd:(List Int)}{zf:(List Bool)}{zc zg:(List Int)}{zi:(List yg)}{r:(ye × (List yg))} (h:zhx x0 m_00 m_10 m_20 m_30 m_40 m_50 m_60 m_70 m_90 ze zh m_80 zd zf zc zg zi=some r):Wp Pg 180 0 (.seq (.seq (.reg none yadu) (.block 0 (.seq (.reg none yadv) (.cond (.t 90) (.reg none yadw) (.seq (.reg none yadx) (.cond (.t 95) (.seq (.reg (some []) yyv) (.cond (.t 123) (.reg none ytj) .skip)) (.seq (.reg none yyw) (.cond (.t 126) (.reg none yyx) (.seq (.reg none yyy) (.cond (.t 131) (.seq (.reg (some []) yyz) (.cond (.t 158) (.reg none ytk) .skip)) (.seq (.reg none yza) (.cond (.t 161) (.reg none yzb) (.seq (.reg none yzc) (.cond (.t 166) (.reg none yzd) (.seq (.reg none yze) (.cond (.t 171) (.reg none yzf) .skip)))))))))))))))) (.seq (.reg none ynd) .ret)) ⟨[(0,.bad),(1,.bad),(2,.bad),(3,.ptr 0 0),(4,.ptr 1 0),(5,.bad),(6,.ptr 2 0),(56,.bad),(83,.bad),(89,.bad),(90,.bad),(95,.bad),(123,.bad),(126,.bad),(131,.bad),(158,.bad),(161,.bad),(166,.bad),(171,.bad)],[],(zadm x0 (0:Int) (0:Int) (0:Int) (0:Int) (0:Int) (0:Int) (0:Int) (0:Int) (0:Int) (0:Int) (0:Int) m_00 m_10 m_20 m_30 m_40 m_50 m_60 m_70 m_80 m_90 zd zf zc zg ze zh zi),9⟩ (yvf r):=by
  unfold zhx at h
  refine Wp.seq (Wp.seq (yh (yb (Wp.block (Wp.seq ?_)))))
  refine yh (yb ?_)
  replace h:=ifS h; rcases h with ⟨g15,h⟩ | ⟨g15,h⟩
  ·refine yab (Wp.reg ?_)
   replace h:=yx h; obtain ⟨r0_4,g16,h⟩:=h
   refine ycy (yp (zxk g16) (yf _)) (ybh (yb ?_))
   exact yt [.kill [3,89,90],.cell 6 8 .frz,.tidy] (zbe h)
  ·refine yaa (Wp.seq ?_)
   refine yh (yb ?_)
   replace h:=ifS h; rcases h with ⟨g17,h⟩ | ⟨g17,h⟩
   ·refine yab (Wp.seq ?_)
    replace h:=ifS h; rcases h with ⟨g18,h⟩ | ⟨g18,h⟩
    ·replace h:=ifS h; rcases h with ⟨g19,h⟩ | ⟨g19,h⟩
     ·replace h:=ifS h; rcases h with ⟨g20,h⟩ | ⟨g20,h⟩
      ·replace h:=yx h; obtain ⟨r0_5,g21,h⟩:=h
       refine yap [53] yao (ybk 25 (yp (zqj g21) (yf _)) (yau _)) (yb ?_)
       exact yt [.kill [3,89,90,95],.tidy] (zmi h)
      ·refine yap [] yao (yau _) (yb ?_)
       exact yt [.kill [3,89,90,95],.tidy] (zmi h)
     ·refine yap [] yao (yau _) (yb ?_)
      exact yt [.kill [3,89,90,95],.tidy] (zmi h)
    ·refine yap [] yao (yau _) (yb ?_)
     exact yt [.kill [3,89,90,95],.tidy] (zmi h)
   ·refine yaa (Wp.seq ?_)
    refine yh (yb ?_)
    replace h:=ifS h; rcases h with ⟨g24,h⟩ | ⟨g24,h⟩
    ·refine yab (Wp.reg ?_)
     replace h:=yx h; obtain ⟨r0_7,g25,h⟩:=h
     refine ycy (yp (zyc g25) (yf _)) (ybh (yb ?_))
     exact yt [.kill [3,89,90,95,126],.cell 6 8 .frz,.tidy] (zbe h)
    ·refine yaa (Wp.seq ?_)
     refine yh (yb ?_)
     replace h:=ifS h; rcases h with ⟨g26,h⟩ | ⟨g26,h⟩
     ·refine yab (Wp.seq ?_)
      replace h:=ifS h; rcases h with ⟨g27,h⟩ | ⟨g27,h⟩
      ·replace h:=ifS h; rcases h with ⟨g28,h⟩ | ⟨g28,h⟩
       ·replace h:=ifS h; rcases h with ⟨g29,h⟩ | ⟨g29,h⟩
        ·replace h:=yx h; obtain ⟨r0_8,g30,h⟩:=h
         refine yap [53] yao (ybk 24 (yp (zqj g30) (yf _)) (yau _)) (yb ?_)
         exact yt [.kill [3,89,90,95,126,131],.tidy] (zmj h)
        ·refine yap [] yao (yau _) (yb ?_)
         exact yt [.kill [3,89,90,95,126,131],.tidy] (zmj h)
       ·refine yap [] yao (yau _) (yb ?_)
        exact yt [.kill [3,89,90,95,126,131],.tidy] (zmj h)
      ·refine yap [] yao (yau _) (yb ?_)
       exact yt [.kill [3,89,90,95,126,131],.tidy] (zmj h)
     ·refine yaa (Wp.seq ?_)
      refine yh (yb ?_)
      replace h:=ifS h; rcases h with ⟨g33,h⟩ | ⟨g33,h⟩
      ·refine yab (Wp.reg ?_)
       replace h:=yx h; obtain ⟨r0_10,g34,h⟩:=h
       refine ycy (yp (zvw g34) (yf _)) (ybh (yb ?_))
       exact yt [.kill [3,89,90,95,126,131,161],.tidy] (zbe h)
      ·refine yaa (Wp.seq ?_)
       refine yh (yb ?_)
       replace h:=ifS h; rcases h with ⟨g35,h⟩ | ⟨g35,h⟩
       ·refine yab (Wp.reg ?_)
        replace h:=yx h; obtain ⟨r0_11,g36,h⟩:=h
        refine ycy (yp (zyb g36) (yf _)) (ybh (yb ?_))
        exact yt [.kill [3,89,90,95,126,131,161,166],.tidy] (zbe h)
       ·refine yaa (Wp.seq ?_)
        refine yh (yb ?_)
        replace h:=ifS h; rcases h with ⟨g37,h⟩ | ⟨g37,h⟩
        ·refine yab (Wp.reg ?_)
         replace h:=yx h; obtain ⟨r0_12,g38,h⟩:=h
         refine ycy (yp (zxz g38) (yf _)) (ybh (yb ?_))
         exact yt [.kill [3,89,90,95,126,131,161,166,171],.tidy] (zbe h)
        ·refine yaa (Wp.skip (ybh (yb ?_)))
         exact yt [.kill [3,89,90,95,126,131,161,166,171],.cell 6 8 .frz,.tidy] (zbe h)
theorem zmh{x0:yg}{r0_1:yd}{v83:Bool}{r:(ye × (List yg))} (h:zdu x0 r0_1 v83=some r):Wp Pg 180 0 (.cond (.t 83) (.reg none yaoi) .skip) ⟨[(0,.bad),(1,.bad),(2,.bad),(3,.ptr 0 0),(4,.ptr 1 0),(5,.bad),(6,.ptr 2 0),(56,.bad),(83,.bool v83),(89,.bad),(90,.bad),(95,.bad),(123,.bad),(126,.bad),(131,.bad),(158,.bad),(161,.bad),(166,.bad),(171,.bad)],[],(zada x0 r0_1 (0:Int) (0:Int) (0:Int) (0:Int) (0:Int) (0:Int) (0:Int) (0:Int) (0:Int) (0:Int) (0:Int)),9⟩ (yav Pg 180 0 (.seq (.seq (.reg none yadu) (.block 0 (.seq (.reg none yadv) (.cond (.t 90) (.reg none yadw) (.seq (.reg none yadx) (.cond (.t 95) (.seq (.reg (some []) yyv) (.cond (.t 123) (.reg none ytj) .skip)) (.seq (.reg none yyw) (.cond (.t 126) (.reg none yyx) (.seq (.reg none yyy) (.cond (.t 131) (.seq (.reg (some []) yyz) (.cond (.t 158) (.reg none ytk) .skip)) (.seq (.reg none yza) (.cond (.t 161) (.reg none yzb) (.seq (.reg none yzc) (.cond (.t 166) (.reg none yzd) (.seq (.reg none yze) (.cond (.t 171) (.reg none yzf) .skip)))))))))))))))) (.seq (.reg none ynd) .ret)) (yvf r)):=by
  unfold zdu at h
  replace h:=ifS h; rcases h with ⟨g13,h⟩ | ⟨g13,h⟩
  ·refine yab (Wp.reg ?_)
   replace h:=yx h; obtain ⟨r0_3,g14,h⟩:=h
   refine ycy (yp (zgf g14) (yf _)) (yb ?_)
   exact yt [.kill [83],.tidy] (zsu h)
  ·refine yaa (Wp.skip (yb ?_))
   exact yt [.kill [83]] (zsu h)
theorem zdx{x0:yg}{r0_1:yd}{v56:Bool}{r:(ye × (List yg))} (h:zbg x0 r0_1 v56=some r):Wp Pg 180 0 (.cond (.t 56) (.seq (.reg none ybjb) .ret) .skip) ⟨[(0,.bad),(1,.bad),(2,.bad),(3,.ptr 0 0),(4,.ptr 1 0),(5,.bad),(6,.ptr 2 0),(56,.bool v56),(83,.bad),(89,.bad),(90,.bad),(95,.bad),(123,.bad),(126,.bad),(131,.bad),(158,.bad),(161,.bad),(166,.bad),(171,.bad)],[],(zada x0 r0_1 (0:Int) (0:Int) (0:Int) (0:Int) (0:Int) (0:Int) (0:Int) (0:Int) (0:Int) (0:Int) (0:Int)),9⟩ (yav Pg 180 0 (.seq (.seq (.reg (some []) ybjc) (.cond (.t 83) (.reg none yaoi) .skip)) (.seq (.seq (.reg none yadu) (.block 0 (.seq (.reg none yadv) (.cond (.t 90) (.reg none yadw) (.seq (.reg none yadx) (.cond (.t 95) (.seq (.reg (some []) yyv) (.cond (.t 123) (.reg none ytj) .skip)) (.seq (.reg none yyw) (.cond (.t 126) (.reg none yyx) (.seq (.reg none yyy) (.cond (.t 131) (.seq (.reg (some []) yyz) (.cond (.t 158) (.reg none ytk) .skip)) (.seq (.reg none yza) (.cond (.t 161) (.reg none yzb) (.seq (.reg none yzc) (.cond (.t 166) (.reg none yzd) (.seq (.reg none yze) (.cond (.t 171) (.reg none yzf) .skip)))))))))))))))) (.seq (.reg none ynd) .ret))) (yvf r)):=by
  unfold zbg at h
  replace h:=ifS h; rcases h with ⟨g8,h⟩ | ⟨g8,h⟩
  ·refine yab (Wp.seq (Wp.reg ?_))
   replace h:=yx h; obtain ⟨r0_2,g9,h⟩:=h
   replace h:=yah h; subst h
   refine yew 2 (yp (zvv g9) (yf _)) ?_
   refine yak (yf _) (yb ?_)
   refine yai [.cell 4 8 .frz,.cell 4 10 .frz,.cell 4 11 .frz,.cell 4 12 .frz,.cell 4 13 .frz,.at 5 .frz] (Wp.ret (yax ?_))
   exact yan
  ·refine yaa (Wp.skip (yb (Wp.seq (Wp.seq ?_))))
   replace h:=ifS h; rcases h with ⟨g10,h⟩ | ⟨g10,h⟩
   ·replace h:=ifS h; rcases h with ⟨g11,h⟩ | ⟨g11,h⟩
    ·replace h:=ifS h; rcases h with ⟨g12,h⟩ | ⟨g12,h⟩
     ·refine yap [] yao (yau _) (yb ?_)
      exact yt [.kill [56],.tidy] (zmh h)
     ·refine yap [] yao (yau _) (yb ?_)
      exact yt [.kill [56],.tidy] (zmh h)
    ·refine yap [] yao (yau _) (yb ?_)
     exact yt [.kill [56],.tidy] (zmh h)
   ·refine yap [] yao (yau _) (yb ?_)
    exact yt [.kill [56],.tidy] (zmh h)
theorem zvh{r0:ye}{x0:yg}{r:(ye × (List yg))} (h:zlh r0 x0=some r):yag Pg 20 [.agg [.int .i64 r0.Id,.int .i64 r0.N,.int .i64 r0.Term,.int .i64 r0.yac,.int .i64 r0.yv,.int .i64 r0.yaf,.int .i64 r0.yj.yn,.int .i64 r0.yj.yi,sl yc.c r0.yj.Entries,.int .i64 r0.yl,sl (ci .u8) r0.yy,sl cb r0.ym,sl (ci .i64) r0.Next,sl (ci .i64) r0.yr,.int .i64 r0.yu,.int .i64 r0.yae],.agg [.int .i64 x0.yar,.int .i64 x0.yct,.int .i64 x0.From,.int .i64 x0.To,.int .i64 x0.Term,.int .i64 x0.At,.int .i64 x0.ybd,.int .i64 x0.yl,.bool x0.Ok,sl yc.c x0.Entries,sl (ci .u8) x0.ybq]] [] 0 (.tup [.agg [.int .i64 r.1.Id,.int .i64 r.1.N,.int .i64 r.1.Term,.int .i64 r.1.yac,.int .i64 r.1.yv,.int .i64 r.1.yaf,.int .i64 r.1.yj.yn,.int .i64 r.1.yj.yi,sl yc.c r.1.yj.Entries,.int .i64 r.1.yl,sl (ci .u8) r.1.yy,sl cb r.1.ym,sl (ci .i64) r.1.Next,sl (ci .i64) r.1.yr,.int .i64 r.1.yu,.int .i64 r.1.yae],sl yg.c r.2]) [] 0:=by
  refine yag.intro Tryz.func20 ybjd (yad rfl) ?_
  show Wp Pg 180 0 yazq ⟨yal _ yazr,[],_,_⟩ (yvf r)
  unfold zlh at h
  unfold yazq
  refine yai [] ?_
  refine Wp.seq (yh (yb (Wp.seq (Wp.reg ?_))))
  replace h:=yx h; obtain ⟨r0_1,g1,h⟩:=h
  refine yew 2 (yp (ztc g1) (yf _)) ?_
  refine yak (yf _) (yb (Wp.seq (Wp.seq ?_)))
  replace h:=ifS h; rcases h with ⟨g2,h⟩ | ⟨g2,h⟩
  ·refine yap [] yao (yau _) (yb ?_)
   exact yt [.kill [0,1,2,5,83,89,90,95,123,126,131,158,161,166,171],.tidy] (zdx h)
  ·replace h:=ifS h; rcases h with ⟨g3,h⟩ | ⟨g3,h⟩
   ·refine yap [] yao (yau _) (yb ?_)
    exact yt [.kill [0,1,2,5,83,89,90,95,123,126,131,158,161,166,171],.tidy] (zdx h)
   ·replace h:=ifS h; rcases h with ⟨g4,h⟩ | ⟨g4,h⟩
    ·refine yap [] yao (yau _) (yb ?_)
     exact yt [.kill [0,1,2,5,83,89,90,95,123,126,131,158,161,166,171],.tidy] (zdx h)
    ·replace h:=ifS h; rcases h with ⟨g5,h⟩ | ⟨g5,h⟩
     ·refine yap [] yao (yau _) (yb ?_)
      exact yt [.kill [0,1,2,5,83,89,90,95,123,126,131,158,161,166,171],.tidy] (zdx h)
     ·replace h:=ifS h; rcases h with ⟨g6,h⟩ | ⟨g6,h⟩
      ·refine yap [] yao (yau _) (yb ?_)
       exact yt [.kill [0,1,2,5,83,89,90,95,123,126,131,158,161,166,171],.tidy] (zdx h)
      ·replace h:=ifS h; rcases h with ⟨g7,h⟩ | ⟨g7,h⟩
       ·refine yap [] yao (yau _) (yb ?_)
        exact yt [.kill [0,1,2,5,83,89,90,95,123,126,131,158,161,166,171],.tidy] (zdx h)
       ·refine yap [] yao (yau _) (yb ?_)
        exact yt [.kill [0,1,2,5,83,89,90,95,123,126,131,158,161,166,171],.tidy] (zdx h)
noncomputable abbrev ydtc(r:Bool):Ex→St→Prop:=yay 0 [.tmp 6] (.bool r) [] 0
theorem zwk{l:yz}{term:Int}{at0:Int}{r:Bool} (h:zmq l term at0=some r):yag Pg 97 [.agg [.int .i64 l.yn,.int .i64 l.yi,sl yc.c l.Entries],.int .i64 term,.int .i64 at0] [] 0 (.bool r) [] 0:=by
  refine yag.intro Tryz.func97 ybpe (yad rfl) ?_
  show Wp Pg 26 0 ybdy ⟨yal _ ybdz,[],_,_⟩ (ydtc r)
  unfold zmq at h
  unfold ybdy
  refine yai [] ?_
  refine Wp.seq (yh (yb (Wp.seq ?_)))
  replace h:=yx h; obtain ⟨r0,g1,h⟩:=h
  replace h:=yx h; obtain ⟨r0_1,g2,h⟩:=h
  refine yap [] yao (ybk 2 (yp (zdt g1) (yf _)) (ybk 3 (yp (zcv g2) (yf _)) (yau _))) (yb (Wp.seq (Wp.seq ?_)))
  refine yh (yb ?_)
  replace h:=ifS h; rcases h with ⟨g3,h⟩ | ⟨g3,h⟩
  ·replace h:=yah h; subst h
   refine yab (Wp.seq ?_)
   refine yh (yb (Wp.ret (yax ?_)))
   exact yan
  ·replace h:=yah h; subst h
   refine yaa (Wp.skip (yb (Wp.seq (Wp.reg ?_))))
   refine yaq 3 (yp (zdt g1) (yf _)) ?_
   refine yak (yf _) (yb (Wp.ret ?_))
   exact yan
noncomputable abbrev ydtd(r:(List yg)):Ex→St→Prop:=yay 0 [.tmp 12] (sl yg.c r) [] 0
theorem zhc{r0:ye}{x0:yg}{kind:Int}{term:Int}{at0:Int}{ok:Bool}{r:(List yg)} (h:zev r0 x0 kind term at0 ok=some r):yag Pg 98 [.agg [.int .i64 r0.Id,.int .i64 r0.N,.int .i64 r0.Term,.int .i64 r0.yac,.int .i64 r0.yv,.int .i64 r0.yaf,.int .i64 r0.yj.yn,.int .i64 r0.yj.yi,sl yc.c r0.yj.Entries,.int .i64 r0.yl,sl (ci .u8) r0.yy,sl cb r0.ym,sl (ci .i64) r0.Next,sl (ci .i64) r0.yr,.int .i64 r0.yu,.int .i64 r0.yae],.agg [.int .i64 x0.yar,.int .i64 x0.yct,.int .i64 x0.From,.int .i64 x0.To,.int .i64 x0.Term,.int .i64 x0.At,.int .i64 x0.ybd,.int .i64 x0.yl,.bool x0.Ok,sl yc.c x0.Entries,sl (ci .u8) x0.ybq],.int .i64 kind,.int .i64 term,.int .i64 at0,.bool ok] [] 0 (sl yg.c r) [] 0:=by
  refine yag.intro Tryz.func98 ybpf (yad rfl) ?_
  show Wp Pg 23 0 ybea ⟨yal _ ybeb,[],_,_⟩ (ydtd r)
  unfold zev at h
  unfold ybea
  refine yai [] ?_
  replace h:=yah h; subst h
  refine Wp.seq (yh (yb (Wp.seq ?_)))
  refine yh (yb ?_)
  refine yai [.at 12 .frz] (Wp.ret ?_)
  exact yan
noncomputable abbrev ybez(r:(ye × (List yg))):Ex→St→Prop:=yay 0 [.cell 4 true 16,.tmp 5] (.tup [.agg [.int .i64 r.1.Id,.int .i64 r.1.N,.int .i64 r.1.Term,.int .i64 r.1.yac,.int .i64 r.1.yv,.int .i64 r.1.yaf,.int .i64 r.1.yj.yn,.int .i64 r.1.yj.yi,sl yc.c r.1.yj.Entries,.int .i64 r.1.yl,sl (ci .u8) r.1.yy,sl cb r.1.ym,sl (ci .i64) r.1.Next,sl (ci .i64) r.1.yr,.int .i64 r.1.yu,.int .i64 r.1.yae],sl yg.c r.2]) [] 0
theorem zqm{r0:ye}{x0:yg}{v37:Bool}{r:(ye × (List yg))} (h:zgk r0 x0 v37=some r):Wp Pg 50 0 (.cond (.t 37) (.seq (.reg (some [(0,5)]) yapb) .ret) .skip) ⟨[(0,.bad),(1,.bad),(2,.ptr 0 0),(3,.ptr 1 0),(4,.ptr 2 0),(5,.bad),(6,.bad),(37,.bool v37)],[],(zwe r0 x0 (0:Int) (0:Int) (0:Int) (0:Int) (0:Int) (0:Int) (0:Int) (0:Int) (0:Int) (0:Int) (0:Int)),3⟩ (yav Pg 50 0 (.seq (.reg (some [(0,5)]) yapc) .ret) (ybez r)):=by
  unfold zgk at h
  replace h:=ifS h; rcases h with ⟨g6,h⟩ | ⟨g6,h⟩
  ·refine yab (Wp.seq ?_)
   replace h:=yx h; obtain ⟨r0_2,g7,h⟩:=h
   replace h:=yah h; subst h
   refine yap [] yao (ybk 5 (yp (zhc g7) (yf _)) (yau _)) (yb (Wp.ret (yax ?_)))
   exact yan
  ·refine yaa (Wp.skip (yb (Wp.seq ?_)))
   replace h:=yx h; obtain ⟨r0_3,g8,h⟩:=h
   replace h:=yah h; subst h
   refine yap [] yao (ybk 5 (yp (zhc g8) (yf _)) (yau _)) (yb (Wp.ret ?_))
   exact yan
theorem zql{r0:ye}{x0:yg}{loyal:Bool}{r:(ye × (List yg))} (h:zgj r0 x0 loyal=some r):Wp Pg 50 0 (.seq (.seq (.reg none ybll) (.cond (.t 37) (.seq (.reg (some [(0,5)]) yapb) .ret) .skip)) (.seq (.reg (some [(0,5)]) yapc) .ret)) ⟨[(0,.bad),(1,.bad),(2,.ptr 0 0),(3,.ptr 1 0),(4,.ptr 2 0),(5,.bad),(6,.bool loyal),(37,.bad)],[],(zwe r0 x0 (0:Int) (0:Int) (0:Int) (0:Int) (0:Int) (0:Int) (0:Int) (0:Int) (0:Int) (0:Int) (0:Int)),3⟩ (ybez r):=by
  unfold zgj at h
  refine Wp.seq (Wp.seq (Wp.reg ?_))
  replace h:=ifS h; rcases h with ⟨g3,h⟩ | ⟨g3,h⟩
  ·replace h:=ifS h; rcases h with ⟨g4,h⟩ | ⟨g4,h⟩
   ·refine yak (yf _) (yb ?_)
    exact yt [.kill [6]] (zqm h)
   ·replace h:=yx h; obtain ⟨r0_1,g5,h⟩:=h
    refine yaq 17 (yp (zwk g5) (yf _)) ?_
    refine yak (yf _) (yb ?_)
    exact yt [.kill [6]] (zqm h)
  ·refine yak (yf _) (yb ?_)
   exact yt [.kill [6]] (zqm h)
theorem zacc{r0:ye}{x0:yg}{r:(ye × (List yg))} (h:zoz r0 x0=some r):yag Pg 61 [.agg [.int .i64 r0.Id,.int .i64 r0.N,.int .i64 r0.Term,.int .i64 r0.yac,.int .i64 r0.yv,.int .i64 r0.yaf,.int .i64 r0.yj.yn,.int .i64 r0.yj.yi,sl yc.c r0.yj.Entries,.int .i64 r0.yl,sl (ci .u8) r0.yy,sl cb r0.ym,sl (ci .i64) r0.Next,sl (ci .i64) r0.yr,.int .i64 r0.yu,.int .i64 r0.yae],.agg [.int .i64 x0.yar,.int .i64 x0.yct,.int .i64 x0.From,.int .i64 x0.To,.int .i64 x0.Term,.int .i64 x0.At,.int .i64 x0.ybd,.int .i64 x0.yl,.bool x0.Ok,sl yc.c x0.Entries,sl (ci .u8) x0.ybq]] [] 0 (.tup [.agg [.int .i64 r.1.Id,.int .i64 r.1.N,.int .i64 r.1.Term,.int .i64 r.1.yac,.int .i64 r.1.yv,.int .i64 r.1.yaf,.int .i64 r.1.yj.yn,.int .i64 r.1.yj.yi,sl yc.c r.1.yj.Entries,.int .i64 r.1.yl,sl (ci .u8) r.1.yy,sl cb r.1.ym,sl (ci .i64) r.1.Next,sl (ci .i64) r.1.yr,.int .i64 r.1.yu,.int .i64 r.1.yae],sl yg.c r.2]) [] 0:=by
  refine yag.intro Tryz.func61 yblm (yad rfl) ?_
  show Wp Pg 50 0 ybbp ⟨yal _ ybbq,[],_,_⟩ (ybez r)
  unfold zoz at h
  unfold ybbp
  refine yai [] ?_
  refine Wp.seq (yh (yb (Wp.seq ?_)))
  replace h:=ifS h; rcases h with ⟨g1,h⟩ | ⟨g1,h⟩
  ·refine yh (yb ?_)
   exact yt [.kill [0,1,5,37],.tidy] (zql h)
  ·replace h:=ifS h; rcases h with ⟨g2,h⟩ | ⟨g2,h⟩
   ·refine yh (yb ?_)
    exact yt [.kill [0,1,5,37],.tidy] (zql h)
   ·refine yh (yb ?_)
    exact yt [.kill [0,1,5,37],.tidy] (zql h)
noncomputable abbrev ybfa(r:(ye × (List yg))):Ex→St→Prop:=yay 0 [.cell 4 true 16,.tmp 5] (.tup [.agg [.int .i64 r.1.Id,.int .i64 r.1.N,.int .i64 r.1.Term,.int .i64 r.1.yac,.int .i64 r.1.yv,.int .i64 r.1.yaf,.int .i64 r.1.yj.yn,.int .i64 r.1.yj.yi,sl yc.c r.1.yj.Entries,.int .i64 r.1.yl,sl (ci .u8) r.1.yy,sl cb r.1.ym,sl (ci .i64) r.1.Next,sl (ci .i64) r.1.yr,.int .i64 r.1.yu,.int .i64 r.1.yae],sl yg.c r.2]) [] 0
theorem zns{r0:ye}{x0:yg}{v41:Bool}{r:(ye × (List yg))} (h:zfx r0 x0 v41=some r):Wp Pg 59 0 (.cond (.t 41) (.seq (.reg (some [(0,5)]) yapd) .ret) .skip) ⟨[(0,.bad),(1,.bad),(2,.ptr 0 0),(3,.ptr 1 0),(4,.ptr 2 0),(5,.bad),(6,.bad),(7,.bad),(41,.bool v41)],[],(zwe r0 x0 (0:Int) (0:Int) (0:Int) (0:Int) (0:Int) (0:Int) (0:Int) (0:Int) (0:Int) (0:Int) (0:Int)),3⟩ (yav Pg 59 0 (.seq (.reg none yape) (.seq (.reg none yapf) (.seq (.reg none yapg) (.seq (.reg (some [(0,5)]) yaph) .ret)))) (ybfa r)):=by
  unfold zfx at h
  replace h:=ifS h; rcases h with ⟨g6,h⟩ | ⟨g6,h⟩
  ·refine yab (Wp.seq ?_)
   replace h:=yx h; obtain ⟨r0_2,g7,h⟩:=h
   replace h:=yah h; subst h
   refine yap [] yao (ybk 5 (yp (zhc g7) (yf _)) (yau _)) (yb (Wp.ret (yax ?_)))
   exact yan
  ·refine yaa (Wp.skip (yb (Wp.seq ?_)))
   refine yh (yb (Wp.seq ?_))
   refine yh (yb (Wp.seq ?_))
   refine yh (yb (Wp.seq ?_))
   replace h:=yx h; obtain ⟨r0_3,g8,h⟩:=h
   replace h:=yah h; subst h
   refine yap [] yao (ybk 5 (yp (zhc g8) (yf _)) (yau _)) (yb (Wp.ret ?_))
   exact yan
theorem zur{r0:ye}{x0:yg}{free:Bool}{r:(ye × (List yg))} (h:zkb r0 x0 free=some r):Wp Pg 59 0 (.seq (.seq (.reg none ybln) (.cond (.t 41) (.seq (.reg (some [(0,5)]) yapd) .ret) .skip)) (.seq (.reg none yape) (.seq (.reg none yapf) (.seq (.reg none yapg) (.seq (.reg (some [(0,5)]) yaph) .ret))))) ⟨[(0,.bad),(1,.bad),(2,.ptr 0 0),(3,.ptr 1 0),(4,.ptr 2 0),(5,.bad),(6,.bool free),(7,.bad),(41,.bad)],[],(zwe r0 x0 (0:Int) (0:Int) (0:Int) (0:Int) (0:Int) (0:Int) (0:Int) (0:Int) (0:Int) (0:Int) (0:Int)),3⟩ (ybfa r):=by
  unfold zkb at h
  refine Wp.seq (Wp.seq (Wp.reg ?_))
  replace h:=ifS h; rcases h with ⟨g2,h⟩ | ⟨g2,h⟩
  ·refine yak (yf _) (yb ?_)
   exact yt [.kill [6]] (zns h)
  ·replace h:=ifS h; rcases h with ⟨g3,h⟩ | ⟨g3,h⟩
   ·refine yak (yf _) (yb ?_)
    exact yt [.kill [6]] (zns h)
   ·replace h:=ifS h; rcases h with ⟨g4,h⟩ | ⟨g4,h⟩
    ·replace h:=yx h; obtain ⟨r0_1,g5,h⟩:=h
     refine yaq 22 (yp (zwk g5) (yf _)) ?_
     refine yak (yf _) (yb ?_)
     exact yt [.kill [6]] (zns h)
    ·refine yak (yf _) (yb ?_)
     exact yt [.kill [6]] (zns h)
theorem zaco{r0:ye}{x0:yg}{r:(ye × (List yg))} (h:zqg r0 x0=some r):yag Pg 62 [.agg [.int .i64 r0.Id,.int .i64 r0.N,.int .i64 r0.Term,.int .i64 r0.yac,.int .i64 r0.yv,.int .i64 r0.yaf,.int .i64 r0.yj.yn,.int .i64 r0.yj.yi,sl yc.c r0.yj.Entries,.int .i64 r0.yl,sl (ci .u8) r0.yy,sl cb r0.ym,sl (ci .i64) r0.Next,sl (ci .i64) r0.yr,.int .i64 r0.yu,.int .i64 r0.yae],.agg [.int .i64 x0.yar,.int .i64 x0.yct,.int .i64 x0.From,.int .i64 x0.To,.int .i64 x0.Term,.int .i64 x0.At,.int .i64 x0.ybd,.int .i64 x0.yl,.bool x0.Ok,sl yc.c x0.Entries,sl (ci .u8) x0.ybq]] [] 0 (.tup [.agg [.int .i64 r.1.Id,.int .i64 r.1.N,.int .i64 r.1.Term,.int .i64 r.1.yac,.int .i64 r.1.yv,.int .i64 r.1.yaf,.int .i64 r.1.yj.yn,.int .i64 r.1.yj.yi,sl yc.c r.1.yj.Entries,.int .i64 r.1.yl,sl (ci .u8) r.1.yy,sl cb r.1.ym,sl (ci .i64) r.1.Next,sl (ci .i64) r.1.yr,.int .i64 r.1.yu,.int .i64 r.1.yae],sl yg.c r.2]) [] 0:=by
  refine yag.intro Tryz.func62 yblo (yad rfl) ?_
  show Wp Pg 59 0 ybbr ⟨yal _ ybbs,[],_,_⟩ (ybfa r)
  unfold zqg at h
  unfold ybbr
  refine yai [] ?_
  refine Wp.seq (yh (yb (Wp.seq ?_)))
  replace h:=ifS h; rcases h with ⟨g1,h⟩ | ⟨g1,h⟩
  ·refine yh (yb ?_)
   exact yt [.kill [0,1,5,7,41],.tidy] (zur h)
  ·refine yh (yb ?_)
   exact yt [.kill [0,1,5,7,41],.tidy] (zur h)
noncomputable abbrev ydte(r:(List Bool)):Ex→St→Prop:=yay 0 [.tmp 4] (sl cb r) [] 0
theorem zyn{l:(List Bool)}{who:Int}{r:(List Bool)} (h:zpj l who=some r):yag Pg 99 [sl cb l,.int .i64 who] [] 0 (sl cb r) [] 0:=by
  refine yag.intro Tryz.func99 ybpg (yad rfl) ?_
  show Wp Pg 14 0 ybec ⟨yal _ ybed,[],_,_⟩ (ydte r)
  unfold zpj at h
  unfold ybec
  refine yai [] ?_
  refine Wp.seq (yh (yb (Wp.seq ?_)))
  refine yh (yb (Wp.seq ?_))
  replace h:=ycw h; obtain ⟨g1,h⟩:=h
  refine yh (yb (Wp.seq ?_))
  replace h:=yx h; obtain ⟨e,g2,h⟩:=h
  replace h:=yah h; subst h
  have:=ycr (n:=1) (id:=0) (ex:=false) (k:=.i64) g2 rfl
  have:=ydw (c:=cb) g2
  have:=ygk cb l (IntKind.i64.wrap (who - (1:Int))) true
  try simp only [EV,EVt, *] at this
  refine yh (yb (Wp.seq ?_))
  refine yh (yb ?_)
  refine yai [.at 4 .frz] (Wp.ret ?_)
  exact yan
noncomputable abbrev yafm(r:(ye × (List yg))):Ex→St→Prop:=yay 0 [.cell 4 true 16,.tmp 5] (.tup [.agg [.int .i64 r.1.Id,.int .i64 r.1.N,.int .i64 r.1.Term,.int .i64 r.1.yac,.int .i64 r.1.yv,.int .i64 r.1.yaf,.int .i64 r.1.yj.yn,.int .i64 r.1.yj.yi,sl yc.c r.1.yj.Entries,.int .i64 r.1.yl,sl (ci .u8) r.1.yy,sl cb r.1.ym,sl (ci .i64) r.1.Next,sl (ci .i64) r.1.yr,.int .i64 r.1.yu,.int .i64 r.1.yae],sl yg.c r.2]) [] 0
theorem zsp{r0:ye}{q_11_1:(List Bool)}{r:(ye × (List yg))} (h:zgz r0 q_11_1=some r):Wp Pg 66 0 (.seq (.reg none ytr) .ret) ⟨[(0,.bad),(1,.bad),(2,.bad),(3,.bad),(4,.ptr 0 0),(5,.bad),(6,.ptr 1 0),(23,.bad),(32,.bad),(51,.bad),(60,.bad)],[],(zadq r0 (0:Int) (0:Int) (0:Int) (0:Int) (0:Int) (0:Int) (0:Int) (0:Int) (0:Int) (0:Int) (0:Int) q_11_1),2⟩ (yafm r):=by
  unfold zgz at h
  replace h:=yah h; subst h
  refine Wp.seq (yh (yb ?_))
  refine yai [.at 5 .frz] (Wp.ret ?_)
  exact yan
theorem zos{r0:ye}{x0:yg}{q_11:(List Bool)}{v51:Bool}{r:(ye × (List yg))} (h:zck r0 x0 q_11 v51=some r):Wp Pg 66 0 (.cond (.t 51) (.seq (.reg none yael) (.seq (.reg none yaem) (.cond (.t 60) (.seq (.reg none yaen) .ret) .skip))) .skip) ⟨[(0,.bad),(1,.bad),(2,.ptr 0 0),(3,.ptr 1 0),(4,.ptr 2 0),(5,.bad),(6,.ptr 3 0),(23,.bad),(32,.bad),(51,.bool v51),(60,.bad)],[],(zadb r0 x0 (0:Int) (0:Int) (0:Int) (0:Int) (0:Int) (0:Int) (0:Int) (0:Int) (0:Int) (0:Int) (0:Int) q_11),4⟩ (yav Pg 66 0 (.seq (.reg none ytr) .ret) (yafm r)):=by
  unfold zck at h
  replace h:=ifS h; rcases h with ⟨g10,h⟩ | ⟨g10,h⟩
  ·refine yab (Wp.seq (Wp.reg ?_))
   replace h:=yx h; obtain ⟨r0_4,g11,h⟩:=h
   refine yaq 5 (yp (zyn g11) (yf _)) ?_
   refine yak (yf _) (yb (Wp.seq (Wp.reg ?_)))
   replace h:=yx h; obtain ⟨r0_5,g12,h⟩:=h
   refine yak (yp (zym g12) (yf _)) (yb ?_)
   replace h:=ifS h; rcases h with ⟨g13,h⟩ | ⟨g13,h⟩
   ·refine yab (Wp.seq (Wp.reg ?_))
    replace h:=yx h; obtain ⟨r0_6,g14,h⟩:=h
    replace h:=yah h; subst h
    refine yaq 2 (yp (zxo g14) (yf _)) ?_
    refine yak (yf _) (yb (Wp.ret (yax ?_)))
    exact yan
   ·refine yaa (Wp.skip (yb ?_))
    exact yt [.kill [2,3,51,60],.tidy] (zsp h)
  ·refine yaa (Wp.skip (yb ?_))
   exact yt [.kill [2,3,51],.tidy] (zsp h)
theorem zso{r0:ye}{x0:yg}{q_11:(List Bool)}{r:(ye × (List yg))} (h:zex r0 x0 q_11=some r):Wp Pg 66 0 (.seq (.seq (.reg none yapi) (.cond (.t 51) (.seq (.reg none yael) (.seq (.reg none yaem) (.cond (.t 60) (.seq (.reg none yaen) .ret) .skip))) .skip)) (.seq (.reg none ytr) .ret)) ⟨[(0,.bad),(1,.bad),(2,.ptr 0 0),(3,.ptr 1 0),(4,.ptr 2 0),(5,.bad),(6,.ptr 3 0),(23,.bad),(32,.bad),(51,.bad),(60,.bad)],[],(zadb r0 x0 (0:Int) (0:Int) (0:Int) (0:Int) (0:Int) (0:Int) (0:Int) (0:Int) (0:Int) (0:Int) (0:Int) q_11),4⟩ (yafm r):=by
  unfold zex at h
  refine Wp.seq (Wp.seq ?_)
  replace h:=ifS h; rcases h with ⟨g8,h⟩ | ⟨g8,h⟩
  ·replace h:=ifS h; rcases h with ⟨g9,h⟩ | ⟨g9,h⟩
   ·refine yh (yb ?_)
    exact yt [] (zos h)
   ·refine yh (yb ?_)
    exact yt [] (zos h)
  ·refine yh (yb ?_)
   exact yt [] (zos h)
theorem zor{r0:ye}{x0:yg}{v23:Bool}{r:(ye × (List yg))} (h:zbk r0 x0 v23=some r):Wp Pg 66 0 (.cond (.t 23) (.seq (.reg none yblp) (.seq (.reg none yblq) (.cond (.t 32) (.seq (.reg none yblr) .ret) .skip))) .skip) ⟨[(0,.bad),(1,.bad),(2,.ptr 0 0),(3,.ptr 1 0),(4,.ptr 2 0),(5,.bad),(6,.ptr 3 0),(23,.bool v23),(32,.bad),(51,.bad),(60,.bad)],[],(zus r0 x0 (0:Int) (0:Int) (0:Int) (0:Int) (0:Int) (0:Int) (0:Int) (0:Int) (0:Int) (0:Int) (0:Int)),4⟩ (yav Pg 66 0 (.seq (.seq (.reg none yapi) (.cond (.t 51) (.seq (.reg none yael) (.seq (.reg none yaem) (.cond (.t 60) (.seq (.reg none yaen) .ret) .skip))) .skip)) (.seq (.reg none ytr) .ret)) (yafm r)):=by
  unfold zbk at h
  replace h:=ifS h; rcases h with ⟨g3,h⟩ | ⟨g3,h⟩
  ·refine yab (Wp.seq (Wp.reg ?_))
   replace h:=yx h; obtain ⟨r0_1,g4,h⟩:=h
   refine yaq 5 (yp (zyn g4) (yf _)) ?_
   refine yak (yf _) (yb (Wp.seq (Wp.reg ?_)))
   replace h:=yx h; obtain ⟨r0_2,g5,h⟩:=h
   refine yak (yp (zym g5) (yf _)) (yb ?_)
   replace h:=ifS h; rcases h with ⟨g6,h⟩ | ⟨g6,h⟩
   ·refine yab (Wp.seq (Wp.reg ?_))
    replace h:=yx h; obtain ⟨r0_3,g7,h⟩:=h
    replace h:=yah h; subst h
    refine yaq 2 (yp (zwl g7) (yf _)) ?_
    refine yak (yf _) (yb (Wp.ret (yax ?_)))
    exact yan
   ·refine yaa (Wp.skip (yb ?_))
    exact yt [.kill [23,32]] (zso h)
  ·refine yaa (Wp.skip (yb ?_))
   exact yt [.kill [23]] (zso h)
theorem zaaw{r0:ye}{x0:yg}{r:(ye × (List yg))} (h:zhu r0 x0=some r):yag Pg 63 [.agg [.int .i64 r0.Id,.int .i64 r0.N,.int .i64 r0.Term,.int .i64 r0.yac,.int .i64 r0.yv,.int .i64 r0.yaf,.int .i64 r0.yj.yn,.int .i64 r0.yj.yi,sl yc.c r0.yj.Entries,.int .i64 r0.yl,sl (ci .u8) r0.yy,sl cb r0.ym,sl (ci .i64) r0.Next,sl (ci .i64) r0.yr,.int .i64 r0.yu,.int .i64 r0.yae],.agg [.int .i64 x0.yar,.int .i64 x0.yct,.int .i64 x0.From,.int .i64 x0.To,.int .i64 x0.Term,.int .i64 x0.At,.int .i64 x0.ybd,.int .i64 x0.yl,.bool x0.Ok,sl yc.c x0.Entries,sl (ci .u8) x0.ybq]] [] 0 (.tup [.agg [.int .i64 r.1.Id,.int .i64 r.1.N,.int .i64 r.1.Term,.int .i64 r.1.yac,.int .i64 r.1.yv,.int .i64 r.1.yaf,.int .i64 r.1.yj.yn,.int .i64 r.1.yj.yi,sl yc.c r.1.yj.Entries,.int .i64 r.1.yl,sl (ci .u8) r.1.yy,sl cb r.1.ym,sl (ci .i64) r.1.Next,sl (ci .i64) r.1.yr,.int .i64 r.1.yu,.int .i64 r.1.yae],sl yg.c r.2]) [] 0:=by
  refine yag.intro Tryz.func63 ybls (yad rfl) ?_
  show Wp Pg 66 0 ybbt ⟨yal _ ybbu,[],_,_⟩ (yafm r)
  unfold zhu at h
  unfold ybbt
  refine yai [] ?_
  refine Wp.seq (yh (yb (Wp.seq ?_)))
  refine yh (yb (Wp.seq (Wp.seq ?_)))
  replace h:=ifS h; rcases h with ⟨g1,h⟩ | ⟨g1,h⟩
  ·replace h:=ifS h; rcases h with ⟨g2,h⟩ | ⟨g2,h⟩
   ·refine yh (yb ?_)
    exact yt [.kill [0,1,5,32,51,60],.tidy] (zor h)
   ·refine yh (yb ?_)
    exact yt [.kill [0,1,5,32,51,60],.tidy] (zor h)
  ·refine yh (yb ?_)
   exact yt [.kill [0,1,5,32,51,60],.tidy] (zor h)
noncomputable abbrev yafn(r:(ye × (List yg))):Ex→St→Prop:=yay 0 [.cell 4 true 16,.tmp 5] (.tup [.agg [.int .i64 r.1.Id,.int .i64 r.1.N,.int .i64 r.1.Term,.int .i64 r.1.yac,.int .i64 r.1.yv,.int .i64 r.1.yaf,.int .i64 r.1.yj.yn,.int .i64 r.1.yj.yi,sl yc.c r.1.yj.Entries,.int .i64 r.1.yl,sl (ci .u8) r.1.yy,sl cb r.1.ym,sl (ci .i64) r.1.Next,sl (ci .i64) r.1.yr,.int .i64 r.1.yu,.int .i64 r.1.yae],sl yg.c r.2]) [] 0
theorem zuj{x0:yg}{r0_2:ye}{r0_5:(yz × Int × Bool)}{q_9_1:Int}{r:(ye × (List yg))} (h:znh x0 r0_2 r0_5 q_9_1=some r):Wp Pg 107 0 (.seq (.reg (some [(0,6)]) yts) .ret) ⟨[(0,.bad),(1,.bad),(2,.bad),(3,.ptr 0 0),(4,.ptr 1 0),(5,.bad),(6,.ptr 2 0),(7,.bad),(8,.int .i64 r0_5.2.1),(9,.bad),(10,.bad),(20,.bad),(36,.bad),(41,.bad),(78,.bad),(92,.bad),(97,.bad)],[],(zads x0 r0_2 (0:Int) (0:Int) (0:Int) (0:Int) (0:Int) (0:Int) (0:Int) (0:Int) (0:Int) (0:Int) (0:Int) r0_5.1.yn r0_5.1.yi r0_5.1.Entries q_9_1 (0:Int)),3⟩ (yafn r):=by
  unfold znh at h
  refine Wp.seq ?_
  replace h:=yx h; obtain ⟨r0_7,g14,h⟩:=h
  replace h:=yah h; subst h
  refine yap [] yao (ybk 6 (yp (zhc g14) (yf _)) (yau _)) (yb ?_)
  refine yai [.cell 4 11 .frz,.cell 4 12 .frz,.cell 4 13 .frz] (Wp.ret ?_)
  exact yan
theorem zui{x0:yg}{r0_2:ye}{r0_5:(yz × Int × Bool)}{c:Int}{r:(ye × (List yg))} (h:zng x0 r0_2 r0_5 c=some r):Wp Pg 107 0 (.seq (.seq (.reg none yzg) (.cond (.t 97) (.reg none yzh) .skip)) (.seq (.reg (some [(0,6)]) yts) .ret)) ⟨[(0,.bad),(1,.bad),(2,.bad),(3,.ptr 0 0),(4,.ptr 1 0),(5,.bad),(6,.ptr 2 0),(7,.bad),(8,.int .i64 r0_5.2.1),(9,.bad),(10,.int .i64 c),(20,.bad),(36,.bad),(41,.bad),(78,.bad),(92,.bad),(97,.bad)],[],(zadr x0 r0_2 (0:Int) (0:Int) (0:Int) (0:Int) (0:Int) (0:Int) (0:Int) (0:Int) (0:Int) (0:Int) (0:Int) r0_5.1.yn r0_5.1.yi r0_5.1.Entries (0:Int)),3⟩ (yafn r):=by
  unfold zng at h
  refine Wp.seq (Wp.seq (yh (yb ?_)))
  replace h:=ifS h; rcases h with ⟨g13,h⟩ | ⟨g13,h⟩
  ·refine yab ?_
   refine yh (yb ?_)
   exact yt [.kill [10,97]] (zuj h)
  ·refine yaa (Wp.skip (yb ?_))
   exact yt [.kill [10,97]] (zuj h)
theorem zuh{x0:yg}{r0_2:ye}{q_6 q_7:Int}{q_8:(List yc)}{q_9:Int}{q_10:(List Int)}{r:(ye × (List yg))} (h:znf x0 r0_2 q_6 q_7 q_8 q_9 q_10=some r):Wp Pg 107 0 (.seq (.reg (some [(0,7)]) yagx) .ret) ⟨[(0,.bad),(1,.bad),(2,.bad),(3,.ptr 0 0),(4,.ptr 1 0),(5,.bad),(6,.ptr 2 0),(7,.bad),(8,.bad),(9,.bad),(10,.bad),(20,.bad),(36,.bad),(41,.bad),(78,.bad),(92,.bad),(97,.bad)],[],(zaec x0 r0_2 (0:Int) (0:Int) (0:Int) (0:Int) (0:Int) (0:Int) (0:Int) (0:Int) (0:Int) (0:Int) (0:Int) q_6 q_7 q_8 q_9 q_10 (0:Int)),3⟩ (yav Pg 107 0 (.seq (.reg none yagy) (.seq (.seq (.reg none yagz) (.cond (.t 78) (.seq (.reg (some [(0,6)]) yaha) .ret) .skip)) (.seq (.reg none yahb) (.seq (.reg none yahc) (.seq (.seq (.reg none yahd) (.cond (.t 92) (.reg none yahe) .skip)) (.seq (.seq (.reg none yzg) (.cond (.t 97) (.reg none yzh) .skip)) (.seq (.reg (some [(0,6)]) yts) .ret))))))) (yafn r)):=by
  unfold znf at h
  refine Wp.seq ?_
  replace h:=yx h; obtain ⟨r0_4,g8,h⟩:=h
  replace h:=yah h; subst h
  refine yap [] yao (ybk 7 (yp (zhc g8) (yf _)) (yau _)) (yb ?_)
  refine yai [.cell 4 11 .frz,.cell 4 12 .frz,.cell 4 13 .frz] (Wp.ret (yax ?_))
  exact yan
theorem zug{r0:ye}{x0:yg}{v20:Bool}{r:(ye × (List yg))} (h:zbq r0 x0 v20=some r):Wp Pg 107 0 (.cond (.t 20) (.seq (.reg (some [(0,5)]) yblt) .ret) .skip) ⟨[(0,.bad),(1,.bad),(2,.ptr 0 0),(3,.ptr 1 0),(4,.ptr 2 0),(5,.bad),(6,.bad),(7,.bad),(8,.bad),(9,.bad),(10,.bad),(20,.bool v20),(36,.bad),(41,.bad),(78,.bad),(92,.bad),(97,.bad)],[],(zwe r0 x0 (0:Int) (0:Int) (0:Int) (0:Int) (0:Int) (0:Int) (0:Int) (0:Int) (0:Int) (0:Int) (0:Int)),3⟩ (yav Pg 107 0 (.seq (.reg none yblu) (.seq (.reg none yblv) (.seq (.seq (.reg none yblw) (.cond (.t 36) (.seq (.seq (.reg none yblx) (.cond (.t 41) (.seq (.reg none ybly) (.seq (.reg none yblz) (.reg none ybma))) .skip)) (.seq (.reg (some [(0,7)]) yagx) .ret)) .skip)) (.seq (.reg none yagy) (.seq (.seq (.reg none yagz) (.cond (.t 78) (.seq (.reg (some [(0,6)]) yaha) .ret) .skip)) (.seq (.reg none yahb) (.seq (.reg none yahc) (.seq (.seq (.reg none yahd) (.cond (.t 92) (.reg none yahe) .skip)) (.seq (.seq (.reg none yzg) (.cond (.t 97) (.reg none yzh) .skip)) (.seq (.reg (some [(0,6)]) yts) .ret)))))))))) (yafn r)):=by
  unfold zbq at h
  replace h:=ifS h; rcases h with ⟨g2,h⟩ | ⟨g2,h⟩
  ·refine yab (Wp.seq ?_)
   replace h:=yx h; obtain ⟨r0_1,g3,h⟩:=h
   replace h:=yah h; subst h
   refine yap [] yao (ybk 5 (yp (zhc g3) (yf _)) (yau _)) (yb (Wp.ret (yax ?_)))
   exact yan
  ·refine yaa (Wp.skip (yb (Wp.seq (Wp.reg ?_))))
   replace h:=yx h; obtain ⟨r0_2,g4,h⟩:=h
   refine yew 6 (yp (zly g4) (yf _)) ?_
   refine yak (yf _) (yb (Wp.seq ?_))
   refine yh (yb (Wp.seq (Wp.seq ?_)))
   refine yh (yb ?_)
   replace h:=ifS h; rcases h with ⟨g5,h⟩ | ⟨g5,h⟩
   ·refine yab (Wp.seq (Wp.seq ?_))
    refine yh (yb ?_)
    replace h:=ifS h; rcases h with ⟨g6,h⟩ | ⟨g6,h⟩
    ·refine yab (Wp.seq (Wp.reg ?_))
     replace h:=yx h; obtain ⟨r0_3,g7,h⟩:=h
     refine yaq 7 (yp (zacb g7) (yf _)) ?_
     refine yak (yf _) (yb (Wp.seq ?_))
     refine yh (yb ?_)
     refine yh (yb ?_)
     exact yt [.kill [2,20,36,41],.tidy] (zuh h)
    ·refine yaa (Wp.skip (yb ?_))
     exact yt [.kill [2,20,36,41],.tidy] (zuh h)
   ·refine yaa (Wp.skip (yb (Wp.seq (Wp.reg ?_))))
    replace h:=yx h; obtain ⟨r0_5,g9,h⟩:=h
    refine yaq 9 (yp (zacr g9) (yf _)) ?_
    refine yak (yf _) (yb (Wp.seq (Wp.seq ?_)))
    refine yh (yb ?_)
    replace h:=ifS h; rcases h with ⟨g10,h⟩ | ⟨g10,h⟩
    ·refine yaa (Wp.skip (yb (Wp.seq ?_)))
     refine yh (yb (Wp.seq ?_))
     refine yh (yb (Wp.seq (Wp.seq ?_)))
     refine yh (yb ?_)
     replace h:=ifS h; rcases h with ⟨g12,h⟩ | ⟨g12,h⟩
     ·refine yab ?_
      refine yh (yb ?_)
      exact yt [.kill [2,7,9,20,36,78,92],.tidy] (zui h)
     ·refine yaa (Wp.skip (yb ?_))
      exact yt [.kill [2,7,9,20,36,78,92],.tidy] (zui h)
    ·refine yab (Wp.seq ?_)
     replace h:=yx h; obtain ⟨r0_6,g11,h⟩:=h
     replace h:=yah h; subst h
     refine yap [] yao (ybk 6 (yp (zhc g11) (yf _)) (yau _)) (yb ?_)
     refine yai [.cell 4 11 .frz,.cell 4 12 .frz,.cell 4 13 .frz] (Wp.ret (yax ?_))
     exact yan
theorem zacm{r0:ye}{x0:yg}{r:(ye × (List yg))} (h:zlu r0 x0=some r):yag Pg 64 [.agg [.int .i64 r0.Id,.int .i64 r0.N,.int .i64 r0.Term,.int .i64 r0.yac,.int .i64 r0.yv,.int .i64 r0.yaf,.int .i64 r0.yj.yn,.int .i64 r0.yj.yi,sl yc.c r0.yj.Entries,.int .i64 r0.yl,sl (ci .u8) r0.yy,sl cb r0.ym,sl (ci .i64) r0.Next,sl (ci .i64) r0.yr,.int .i64 r0.yu,.int .i64 r0.yae],.agg [.int .i64 x0.yar,.int .i64 x0.yct,.int .i64 x0.From,.int .i64 x0.To,.int .i64 x0.Term,.int .i64 x0.At,.int .i64 x0.ybd,.int .i64 x0.yl,.bool x0.Ok,sl yc.c x0.Entries,sl (ci .u8) x0.ybq]] [] 0 (.tup [.agg [.int .i64 r.1.Id,.int .i64 r.1.N,.int .i64 r.1.Term,.int .i64 r.1.yac,.int .i64 r.1.yv,.int .i64 r.1.yaf,.int .i64 r.1.yj.yn,.int .i64 r.1.yj.yi,sl yc.c r.1.yj.Entries,.int .i64 r.1.yl,sl (ci .u8) r.1.yy,sl cb r.1.ym,sl (ci .i64) r.1.Next,sl (ci .i64) r.1.yr,.int .i64 r.1.yu,.int .i64 r.1.yae],sl yg.c r.2]) [] 0:=by
  refine yag.intro Tryz.func64 ybmb (yad rfl) ?_
  show Wp Pg 107 0 ybbv ⟨yal _ ybbw,[],_,_⟩ (yafn r)
  unfold zlu at h
  unfold ybbv
  refine yai [] ?_
  refine Wp.seq (yh (yb (Wp.seq (Wp.seq ?_))))
  replace h:=ifS h; rcases h with ⟨g1,h⟩ | ⟨g1,h⟩
  ·refine yh (yb ?_)
   exact yt [.kill [0,1,5,6,7,8,9,10,36,41,78,92,97],.tidy] (zug h)
  ·refine yh (yb ?_)
   exact yt [.kill [0,1,5,6,7,8,9,10,36,41,78,92,97],.tidy] (zug h)
noncomputable abbrev yvo(r:(ye × (List yg))):Ex→St→Prop:=yay 0 [.cell 4 true 16,.tmp 5] (.tup [.agg [.int .i64 r.1.Id,.int .i64 r.1.N,.int .i64 r.1.Term,.int .i64 r.1.yac,.int .i64 r.1.yv,.int .i64 r.1.yaf,.int .i64 r.1.yj.yn,.int .i64 r.1.yj.yi,sl yc.c r.1.yj.Entries,.int .i64 r.1.yl,sl (ci .u8) r.1.yy,sl cb r.1.ym,sl (ci .i64) r.1.Next,sl (ci .i64) r.1.yr,.int .i64 r.1.yu,.int .i64 r.1.yae],sl yg.c r.2]) [] 0
theorem zuq{r0:ye}{x0:yg}{r0_1 match0 next_2:Int}{r:(ye × (List yg))} (h:zka r0 x0 r0_1 match0 next_2=some r):Wp Pg 113 0 (.seq (.reg none ynh) (.seq (.reg none yni) (.seq (.reg none ynj) (.seq (.seq (.reg none ynk) (.cond (.t 105) (.seq (.reg none ynl) .ret) .skip)) (.seq (.reg (some [(0,4),(0,5),(5,6)]) ynm) .ret))))) ⟨[(0,.bad),(1,.bad),(2,.ptr 0 0),(3,.ptr 1 0),(4,.ptr 2 0),(5,.bad),(6,.ptr 3 0),(7,.int .i64 match0),(8,.int .i64 next_2),(9,.int .i64 r0_1),(10,.bad),(20,.bad),(42,.bad),(49,.bad),(55,.bad),(75,.bad),(79,.bad),(83,.bad),(105,.bad)],[],(zus r0 x0 (0:Int) (0:Int) (0:Int) (0:Int) (0:Int) (0:Int) (0:Int) (0:Int) (0:Int) (0:Int) (0:Int)),4⟩ (yvo r):=by
  unfold zka at h
  refine Wp.seq (Wp.reg ?_)
  replace h:=yx h; obtain ⟨r0_4,g14,h⟩:=h
  refine yaq 6 (yp (zrl g14) (yf _)) ?_
  refine yak (yf _) (yb (Wp.seq (Wp.reg ?_)))
  replace h:=yx h; obtain ⟨r0_5,g15,h⟩:=h
  refine yaq 6 (yp (zrl g15) (yf _)) ?_
  refine yak (yf _) (yb (Wp.seq (Wp.reg ?_)))
  replace h:=yx h; obtain ⟨r0_6,g16,h⟩:=h
  refine yaq 2 (yp (zvs g16) (yf _)) ?_
  refine yak (yf _) (yb (Wp.seq (Wp.seq ?_)))
  refine yh (yb ?_)
  replace h:=ifS h; rcases h with ⟨g17,h⟩ | ⟨g17,h⟩
  ·replace h:=yah h; subst h
   refine yab (Wp.seq ?_)
   refine yh (yb ?_)
   refine yai [.at 5 .frz] (Wp.ret (yax ?_))
   exact yan
  ·refine yaa (Wp.skip (yb (Wp.seq ?_)))
   replace h:=yx h; obtain ⟨r0_7,g18,h⟩:=h
   replace h:=yah h; subst h
   refine yap [] yao (ybk 4 (yp (zsz g18) (yf _)) (yau _)) (yb ?_)
   refine yai [.at 5 .frz] (Wp.ret ?_)
   exact yan
theorem zup{r0:ye}{x0:yg}{e_1 r0_1 match0:Int}{r:(ye × (List yg))} (h:zjz r0 x0 e_1 r0_1 match0=some r):Wp Pg 113 0 (.seq (.seq (.reg none yqa) (.cond (.t 83) (.reg none yqb) .skip)) (.seq (.reg none ynh) (.seq (.reg none yni) (.seq (.reg none ynj) (.seq (.seq (.reg none ynk) (.cond (.t 105) (.seq (.reg none ynl) .ret) .skip)) (.seq (.reg (some [(0,4),(0,5),(5,6)]) ynm) .ret)))))) ⟨[(0,.bad),(1,.bad),(2,.ptr 0 0),(3,.ptr 1 0),(4,.ptr 2 0),(5,.bad),(6,.ptr 3 0),(7,.int .i64 match0),(8,.int .i64 e_1),(9,.int .i64 r0_1),(10,.bad),(20,.bad),(42,.bad),(49,.bad),(55,.bad),(75,.bad),(79,.bad),(83,.bad),(105,.bad)],[],(zus r0 x0 (0:Int) (0:Int) (0:Int) (0:Int) (0:Int) (0:Int) (0:Int) (0:Int) (0:Int) (0:Int) (0:Int)),4⟩ (yvo r):=by
  unfold zjz at h
  refine Wp.seq (Wp.seq (yh (yb ?_)))
  replace h:=ifS h; rcases h with ⟨g13,h⟩ | ⟨g13,h⟩
  ·refine yab ?_
   refine yh (yb ?_)
   exact yt [.kill [83]] (zuq h)
  ·refine yaa (Wp.skip (yb ?_))
   exact yt [.kill [83]] (zuq h)
theorem zuo{r0:ye}{x0:yg}{e e_1 r0_1 far:Int}{r:(ye × (List yg))} (h:zjy r0 x0 e e_1 r0_1 far=some r):Wp Pg 113 0 (.seq (.seq (.reg none ytt) (.cond (.t 79) (.reg none ytu) .skip)) (.seq (.seq (.reg none yqa) (.cond (.t 83) (.reg none yqb) .skip)) (.seq (.reg none ynh) (.seq (.reg none yni) (.seq (.reg none ynj) (.seq (.seq (.reg none ynk) (.cond (.t 105) (.seq (.reg none ynl) .ret) .skip)) (.seq (.reg (some [(0,4),(0,5),(5,6)]) ynm) .ret))))))) ⟨[(0,.bad),(1,.bad),(2,.ptr 0 0),(3,.ptr 1 0),(4,.ptr 2 0),(5,.bad),(6,.ptr 3 0),(7,.int .i64 e),(8,.int .i64 e_1),(9,.int .i64 r0_1),(10,.int .i64 far),(20,.bad),(42,.bad),(49,.bad),(55,.bad),(75,.bad),(79,.bad),(83,.bad),(105,.bad)],[],(zus r0 x0 (0:Int) (0:Int) (0:Int) (0:Int) (0:Int) (0:Int) (0:Int) (0:Int) (0:Int) (0:Int) (0:Int)),4⟩ (yvo r):=by
  unfold zjy at h
  refine Wp.seq (Wp.seq (yh (yb ?_)))
  replace h:=ifS h; rcases h with ⟨g12,h⟩ | ⟨g12,h⟩
  ·refine yab ?_
   refine yh (yb ?_)
   exact yt [.kill [10,79]] (zup h)
  ·refine yaa (Wp.skip (yb ?_))
   exact yt [.kill [10,79]] (zup h)
theorem zun{r0:ye}{x0:yg}{next_1:Int}{r:(ye × (List yg))} (h:zjx r0 x0 next_1=some r):Wp Pg 113 0 (.seq (.reg none yzi) (.seq (.reg (some [(0,4),(0,5),(5,6)]) yzj) .ret)) ⟨[(0,.bad),(1,.bad),(2,.ptr 0 0),(3,.ptr 1 0),(4,.ptr 2 0),(5,.bad),(6,.ptr 3 0),(7,.bad),(8,.int .i64 next_1),(9,.bad),(10,.bad),(20,.bad),(42,.bad),(49,.bad),(55,.bad),(75,.bad),(79,.bad),(83,.bad),(105,.bad)],[],(zus r0 x0 (0:Int) (0:Int) (0:Int) (0:Int) (0:Int) (0:Int) (0:Int) (0:Int) (0:Int) (0:Int) (0:Int)),4⟩ (yav Pg 113 0 (.seq (.reg none yzk) (.seq (.seq (.reg none yzl) (.cond (.t 75) (.reg none yzm) .skip)) (.seq (.seq (.reg none ytt) (.cond (.t 79) (.reg none ytu) .skip)) (.seq (.seq (.reg none yqa) (.cond (.t 83) (.reg none yqb) .skip)) (.seq (.reg none ynh) (.seq (.reg none yni) (.seq (.reg none ynj) (.seq (.seq (.reg none ynk) (.cond (.t 105) (.seq (.reg none ynl) .ret) .skip)) (.seq (.reg (some [(0,4),(0,5),(5,6)]) ynm) .ret))))))))) (yvo r)):=by
  unfold zjx at h
  refine Wp.seq (Wp.reg ?_)
  replace h:=yx h; obtain ⟨r0_2,g9,h⟩:=h
  refine yaq 6 (yp (zrl g9) (yf _)) ?_
  refine yak (yf _) (yb (Wp.seq ?_))
  replace h:=yx h; obtain ⟨r0_3,g10,h⟩:=h
  replace h:=yah h; subst h
  refine yap [] yao (ybk 4 (yp (zsz g10) (yf _)) (yau _)) (yb ?_)
  refine yai [.at 5 .frz] (Wp.ret (yax ?_))
  exact yan
theorem zum{r0:ye}{x0:yg}{e next:Int}{r:(ye × (List yg))} (h:zjw r0 x0 e next=some r):Wp Pg 113 0 (.seq (.seq (.reg none yahf) (.cond (.t 55) (.reg none yahg) .skip)) (.seq (.reg none yzi) (.seq (.reg (some [(0,4),(0,5),(5,6)]) yzj) .ret))) ⟨[(0,.bad),(1,.bad),(2,.ptr 0 0),(3,.ptr 1 0),(4,.ptr 2 0),(5,.bad),(6,.ptr 3 0),(7,.int .i64 e),(8,.int .i64 next),(9,.bad),(10,.bad),(20,.bad),(42,.bad),(49,.bad),(55,.bad),(75,.bad),(79,.bad),(83,.bad),(105,.bad)],[],(zus r0 x0 (0:Int) (0:Int) (0:Int) (0:Int) (0:Int) (0:Int) (0:Int) (0:Int) (0:Int) (0:Int) (0:Int)),4⟩ (yav Pg 113 0 (.seq (.reg none yzk) (.seq (.seq (.reg none yzl) (.cond (.t 75) (.reg none yzm) .skip)) (.seq (.seq (.reg none ytt) (.cond (.t 79) (.reg none ytu) .skip)) (.seq (.seq (.reg none yqa) (.cond (.t 83) (.reg none yqb) .skip)) (.seq (.reg none ynh) (.seq (.reg none yni) (.seq (.reg none ynj) (.seq (.seq (.reg none ynk) (.cond (.t 105) (.seq (.reg none ynl) .ret) .skip)) (.seq (.reg (some [(0,4),(0,5),(5,6)]) ynm) .ret))))))))) (yvo r)):=by
  unfold zjw at h
  refine Wp.seq (Wp.seq (yh (yb ?_)))
  replace h:=ifS h; rcases h with ⟨g8,h⟩ | ⟨g8,h⟩
  ·refine yab ?_
   refine yh (yb ?_)
   exact yt [.kill [7,55]] (zun h)
  ·refine yaa (Wp.skip (yb ?_))
   exact yt [.kill [7,55]] (zun h)
theorem zul{r0:ye}{x0:yg}{v20:Bool}{r:(ye × (List yg))} (h:zfw r0 x0 v20=some r):Wp Pg 113 0 (.cond (.t 20) (.seq (.reg none ybmc) .ret) .skip) ⟨[(0,.bad),(1,.bad),(2,.ptr 0 0),(3,.ptr 1 0),(4,.ptr 2 0),(5,.bad),(6,.bad),(7,.bad),(8,.bad),(9,.bad),(10,.bad),(20,.bool v20),(42,.bad),(49,.bad),(55,.bad),(75,.bad),(79,.bad),(83,.bad),(105,.bad)],[],(zwe r0 x0 (0:Int) (0:Int) (0:Int) (0:Int) (0:Int) (0:Int) (0:Int) (0:Int) (0:Int) (0:Int) (0:Int)),3⟩ (yav Pg 113 0 (.seq (.reg none ybmd) (.seq (.reg none ybme) (.seq (.reg none ybmf) (.seq (.reg none ybmg) (.seq (.seq (.reg none ybmh) (.cond (.t 42) (.seq (.reg none ybmi) (.seq (.seq (.reg none ybmj) (.cond (.t 49) (.reg none yawb) .skip)) (.seq (.seq (.reg none yahf) (.cond (.t 55) (.reg none yahg) .skip)) (.seq (.reg none yzi) (.seq (.reg (some [(0,4),(0,5),(5,6)]) yzj) .ret))))) .skip)) (.seq (.reg none yzk) (.seq (.seq (.reg none yzl) (.cond (.t 75) (.reg none yzm) .skip)) (.seq (.seq (.reg none ytt) (.cond (.t 79) (.reg none ytu) .skip)) (.seq (.seq (.reg none yqa) (.cond (.t 83) (.reg none yqb) .skip)) (.seq (.reg none ynh) (.seq (.reg none yni) (.seq (.reg none ynj) (.seq (.seq (.reg none ynk) (.cond (.t 105) (.seq (.reg none ynl) .ret) .skip)) (.seq (.reg (some [(0,4),(0,5),(5,6)]) ynm) .ret)))))))))))))) (yvo r)):=by
  unfold zfw at h
  replace h:=ifS h; rcases h with ⟨g2,h⟩ | ⟨g2,h⟩
  ·replace h:=yah h; subst h
   refine yab (Wp.seq ?_)
   refine yh (yb ?_)
   refine yai [.at 5 .frz] (Wp.ret (yax ?_))
   exact yan
  ·refine yaa (Wp.skip (yb (Wp.seq ?_)))
   refine yh (yb (Wp.seq ?_))
   replace h:=yx h; obtain ⟨e,g3,h⟩:=h
   refine yh (yb (Wp.seq ?_))
   replace h:=yx h; obtain ⟨e_1,g4,h⟩:=h
   refine yh (yb (Wp.seq (Wp.reg ?_)))
   replace h:=yx h; obtain ⟨r0_1,g5,h⟩:=h
   refine yaq 3 (yp (zdt g5) (yf _)) ?_
   refine yak (yf _) (yb (Wp.seq (Wp.seq ?_)))
   refine yh (yb ?_)
   replace h:=ifS h; rcases h with ⟨g6,h⟩ | ⟨g6,h⟩
   ·refine yaa (Wp.skip (yb (Wp.seq ?_)))
    refine yh (yb (Wp.seq (Wp.seq ?_)))
    refine yh (yb ?_)
    replace h:=ifS h; rcases h with ⟨g11,h⟩ | ⟨g11,h⟩
    ·refine yab ?_
     refine yh (yb ?_)
     exact yt [.kill [20,42,75],.tidy] (zuo h)
    ·refine yaa (Wp.skip (yb ?_))
     exact yt [.kill [20,42,75],.tidy] (zuo h)
   ·refine yab (Wp.seq ?_)
    refine yh (yb (Wp.seq (Wp.seq ?_)))
    refine yh (yb ?_)
    replace h:=ifS h; rcases h with ⟨g7,h⟩ | ⟨g7,h⟩
    ·refine yab ?_
     refine yh (yb ?_)
     exact yt [.kill [9,20,42,49],.tidy] (zum h)
    ·refine yaa (Wp.skip (yb ?_))
     exact yt [.kill [9,20,42,49],.tidy] (zum h)
theorem zacn{r0:ye}{x0:yg}{r:(ye × (List yg))} (h:zqf r0 x0=some r):yag Pg 65 [.agg [.int .i64 r0.Id,.int .i64 r0.N,.int .i64 r0.Term,.int .i64 r0.yac,.int .i64 r0.yv,.int .i64 r0.yaf,.int .i64 r0.yj.yn,.int .i64 r0.yj.yi,sl yc.c r0.yj.Entries,.int .i64 r0.yl,sl (ci .u8) r0.yy,sl cb r0.ym,sl (ci .i64) r0.Next,sl (ci .i64) r0.yr,.int .i64 r0.yu,.int .i64 r0.yae],.agg [.int .i64 x0.yar,.int .i64 x0.yct,.int .i64 x0.From,.int .i64 x0.To,.int .i64 x0.Term,.int .i64 x0.At,.int .i64 x0.ybd,.int .i64 x0.yl,.bool x0.Ok,sl yc.c x0.Entries,sl (ci .u8) x0.ybq]] [] 0 (.tup [.agg [.int .i64 r.1.Id,.int .i64 r.1.N,.int .i64 r.1.Term,.int .i64 r.1.yac,.int .i64 r.1.yv,.int .i64 r.1.yaf,.int .i64 r.1.yj.yn,.int .i64 r.1.yj.yi,sl yc.c r.1.yj.Entries,.int .i64 r.1.yl,sl (ci .u8) r.1.yy,sl cb r.1.ym,sl (ci .i64) r.1.Next,sl (ci .i64) r.1.yr,.int .i64 r.1.yu,.int .i64 r.1.yae],sl yg.c r.2]) [] 0:=by
  refine yag.intro Tryz.func65 ybmk (yad rfl) ?_
  show Wp Pg 113 0 ybbx ⟨yal _ ybby,[],_,_⟩ (yvo r)
  unfold zqf at h
  unfold ybbx
  refine yai [] ?_
  refine Wp.seq (yh (yb (Wp.seq (Wp.seq ?_))))
  replace h:=ifS h; rcases h with ⟨g1,h⟩ | ⟨g1,h⟩
  ·refine yh (yb ?_)
   exact yt [.kill [0,1,5,6,7,8,9,10,42,49,55,75,79,83,105],.tidy] (zul h)
  ·refine yh (yb ?_)
   exact yt [.kill [0,1,5,6,7,8,9,10,42,49,55,75,79,83,105],.tidy] (zul h)
noncomputable abbrev ysd(r:(ye × (List yg))):Ex→St→Prop:=yay 0 [.cell 4 true 16,.tmp 5] (.tup [.agg [.int .i64 r.1.Id,.int .i64 r.1.N,.int .i64 r.1.Term,.int .i64 r.1.yac,.int .i64 r.1.yv,.int .i64 r.1.yaf,.int .i64 r.1.yj.yn,.int .i64 r.1.yj.yi,sl yc.c r.1.yj.Entries,.int .i64 r.1.yl,sl (ci .u8) r.1.yy,sl cb r.1.ym,sl (ci .i64) r.1.Next,sl (ci .i64) r.1.yr,.int .i64 r.1.yu,.int .i64 r.1.yae],sl yg.c r.2]) [] 0
theorem zsn{q_0 q_1 q_2 q_3 q_4 q_5 q_6 q_7:Int}{q_8:(List yc)}{q_9:Int}{q_10:(List Int)}{q_11:(List Bool)}{q_12 q_13:(List Int)}{q_14 q_15:Int}{r:(ye × (List yg))} (h:zjj q_0 q_1 q_2 q_3 q_4 q_5 q_6 q_7 q_8 q_9 q_10 q_11 q_12 q_13 q_14 q_15=some r):Wp Pg 116 0 (.seq (.reg none ylq) .ret) ⟨[(0,.bad),(1,.bad),(2,.bad),(3,.bad),(4,.ptr 0 0),(5,.bad),(6,.ptr 1 0),(7,.bad),(46,.bad),(69,.bad),(75,.bad),(76,.bad),(83,.bad),(90,.bad),(94,.bad),(100,.bad),(108,.bad)],[],(zadi (0:Int) (0:Int) (0:Int) (0:Int) (0:Int) (0:Int) (0:Int) (0:Int) (0:Int) (0:Int) (0:Int) q_0 q_1 q_2 q_3 q_4 q_5 q_6 q_7 q_8 q_9 q_10 q_11 q_12 q_13 q_14 q_15),2⟩ (ysd r):=by
  unfold zjj at h
  replace h:=yah h; subst h
  refine Wp.seq (yh (yb ?_))
  refine yai [.at 5 .frz] (Wp.ret ?_)
  exact yan
theorem zsm{x0:yg}{q_0 q_1 q_2 q_3 q_4 q_5 q_6 q_7:Int}{q_8:(List yc)}{q_9:Int}{q_10:(List Int)}{q_11:(List Bool)}{q_12 q_13:(List Int)}{q_14 q_15:Int}{v100:Bool}{r:(ye × (List yg))} (h:zji x0 q_0 q_1 q_2 q_3 q_4 q_5 q_6 q_7 q_8 q_9 q_10 q_11 q_12 q_13 q_14 q_15 v100=some r):Wp Pg 116 0 (.cond (.t 100) (.seq (.reg none yne) .ret) (.seq (.reg none ynf) (.cond (.t 108) (.seq (.reg none yng) .ret) .skip))) ⟨[(0,.bad),(1,.bad),(2,.bad),(3,.ptr 0 0),(4,.ptr 1 0),(5,.bad),(6,.ptr 2 0),(7,.bad),(46,.bad),(69,.bad),(75,.int .i64 x0.yar),(76,.bad),(83,.bad),(90,.bad),(94,.bad),(100,.bool v100),(108,.bad)],[],(zacv x0 (0:Int) (0:Int) (0:Int) (0:Int) (0:Int) (0:Int) (0:Int) (0:Int) (0:Int) (0:Int) (0:Int) q_0 q_1 q_2 q_3 q_4 q_5 q_6 q_7 q_8 q_9 q_10 q_11 q_12 q_13 q_14 q_15),3⟩ (yam 0 (yav Pg 116 0 (.seq (.reg none ylq) .ret) (ysd r))):=by
  unfold zji at h
  replace h:=ifS h; rcases h with ⟨g22,h⟩ | ⟨g22,h⟩
  ·refine yab (Wp.seq (Wp.reg ?_))
   replace h:=yx h; obtain ⟨r0_5,g23,h⟩:=h
   replace h:=yah h; subst h
   refine yaq 3 (yp (zacm g23) (yf _)) ?_
   refine yak (yf _) (yb (Wp.ret (ybn (yax ?_))))
   exact yan
  ·refine yaa (Wp.seq ?_)
   refine yh (yb ?_)
   replace h:=ifS h; rcases h with ⟨g24,h⟩ | ⟨g24,h⟩
   ·refine yab (Wp.seq (Wp.reg ?_))
    replace h:=yx h; obtain ⟨r0_6,g25,h⟩:=h
    replace h:=yah h; subst h
    refine yaq 3 (yp (zacn g25) (yf _)) ?_
    refine yak (yf _) (yb (Wp.ret (ybn (yax ?_))))
    exact yan
   ·refine yaa (Wp.skip (ybh (yb ?_)))
    exact yt [.kill [3,75,100,108],.tidy] (zsn h)
theorem zsl{x0:yg}{q_0 q_1 q_2 q_3 q_4 q_5 q_6 q_7:Int}{q_8:(List yc)}{q_9:Int}{q_10:(List Int)}{q_11:(List Bool)}{q_12 q_13:(List Int)}{q_14 q_15:Int}{v90:Bool}{r:(ye × (List yg))} (h:zeu x0 q_0 q_1 q_2 q_3 q_4 q_5 q_6 q_7 q_8 q_9 q_10 q_11 q_12 q_13 q_14 q_15 v90=some r):Wp Pg 116 0 (.cond (.t 90) (.seq (.reg none ypw) (.cond (.t 94) (.seq (.reg none ypx) .ret) .skip)) (.seq (.seq (.reg none ypy) (.cond (.t 100) .skip (.reg none ypz))) (.cond (.t 100) (.seq (.reg none yne) .ret) (.seq (.reg none ynf) (.cond (.t 108) (.seq (.reg none yng) .ret) .skip))))) ⟨[(0,.bad),(1,.bad),(2,.bad),(3,.ptr 0 0),(4,.ptr 1 0),(5,.bad),(6,.ptr 2 0),(7,.bad),(46,.bad),(69,.bad),(75,.int .i64 x0.yar),(76,.bad),(83,.bad),(90,.bool v90),(94,.bad),(100,.bad),(108,.bad)],[],(zacv x0 (0:Int) (0:Int) (0:Int) (0:Int) (0:Int) (0:Int) (0:Int) (0:Int) (0:Int) (0:Int) (0:Int) q_0 q_1 q_2 q_3 q_4 q_5 q_6 q_7 q_8 q_9 q_10 q_11 q_12 q_13 q_14 q_15),3⟩ (yam 0 (yav Pg 116 0 (.seq (.reg none ylq) .ret) (ysd r))):=by
  unfold zeu at h
  replace h:=ifS h; rcases h with ⟨g18,h⟩ | ⟨g18,h⟩
  ·refine yab (Wp.seq ?_)
   refine yh (yb ?_)
   replace h:=ifS h; rcases h with ⟨g19,h⟩ | ⟨g19,h⟩
   ·refine yab (Wp.seq (Wp.reg ?_))
    replace h:=yx h; obtain ⟨r0_4,g20,h⟩:=h
    replace h:=yah h; subst h
    refine yaq 3 (yp (zaaw g20) (yf _)) ?_
    refine yak (yf _) (yb (Wp.ret (ybn (yax ?_))))
    exact yan
   ·refine yaa (Wp.skip (ybh (yb ?_)))
    exact yt [.kill [3,75,90,94],.tidy] (zsn h)
  ·refine yaa (Wp.seq (Wp.seq ?_))
   refine yh (yb ?_)
   replace h:=ifS h; rcases h with ⟨g21,h⟩ | ⟨g21,h⟩
   ·refine yab (Wp.skip (yb ?_))
    exact yt [.kill [90]] (zsm h)
   ·refine yaa ?_
    refine yh (yb ?_)
    exact yt [.kill [90]] (zsm h)
theorem zsk{x0:yg}{q_0 q_1 q_2 q_3 q_4 q_5 q_6 q_7:Int}{q_8:(List yc)}{q_9:Int}{q_10:(List Int)}{q_11:(List Bool)}{q_12 q_13:(List Int)}{q_14 q_15:Int}{r:(ye × (List yg))} (h:zgw x0 q_0 q_1 q_2 q_3 q_4 q_5 q_6 q_7 q_8 q_9 q_10 q_11 q_12 q_13 q_14 q_15=some r):Wp Pg 116 0 (.seq (.seq (.reg none ywt) (.block 0 (.seq (.reg none ywu) (.cond (.t 76) (.seq (.reg none ywv) .ret) (.seq (.reg none ytl) (.cond (.t 83) (.seq (.reg none ytm) .ret) (.seq (.seq (.reg none ytn) (.cond (.t 90) .skip (.reg none yto))) (.cond (.t 90) (.seq (.reg none ypw) (.cond (.t 94) (.seq (.reg none ypx) .ret) .skip)) (.seq (.seq (.reg none ypy) (.cond (.t 100) .skip (.reg none ypz))) (.cond (.t 100) (.seq (.reg none yne) .ret) (.seq (.reg none ynf) (.cond (.t 108) (.seq (.reg none yng) .ret) .skip)))))))))))) (.seq (.reg none ylq) .ret)) ⟨[(0,.bad),(1,.bad),(2,.bad),(3,.ptr 0 0),(4,.ptr 1 0),(5,.bad),(6,.ptr 2 0),(7,.bad),(46,.bad),(69,.bad),(75,.bad),(76,.bad),(83,.bad),(90,.bad),(94,.bad),(100,.bad),(108,.bad)],[],(zacv x0 (0:Int) (0:Int) (0:Int) (0:Int) (0:Int) (0:Int) (0:Int) (0:Int) (0:Int) (0:Int) (0:Int) q_0 q_1 q_2 q_3 q_4 q_5 q_6 q_7 q_8 q_9 q_10 q_11 q_12 q_13 q_14 q_15),3⟩ (ysd r):=by
  unfold zgw at h
  refine Wp.seq (Wp.seq (yh (yb (Wp.block (Wp.seq ?_)))))
  refine yh (yb ?_)
  replace h:=ifS h; rcases h with ⟨g13,h⟩ | ⟨g13,h⟩
  ·refine yab (Wp.seq (Wp.reg ?_))
   replace h:=yx h; obtain ⟨r0_2,g14,h⟩:=h
   replace h:=yah h; subst h
   refine yaq 3 (yp (zacc g14) (yf _)) ?_
   refine yak (yf _) (yb (Wp.ret (ybn (yax ?_))))
   exact yan
  ·refine yaa (Wp.seq ?_)
   refine yh (yb ?_)
   replace h:=ifS h; rcases h with ⟨g15,h⟩ | ⟨g15,h⟩
   ·refine yab (Wp.seq (Wp.reg ?_))
    replace h:=yx h; obtain ⟨r0_3,g16,h⟩:=h
    replace h:=yah h; subst h
    refine yaq 3 (yp (zaco g16) (yf _)) ?_
    refine yak (yf _) (yb (Wp.ret (ybn (yax ?_))))
    exact yan
   ·refine yaa (Wp.seq (Wp.seq ?_))
    refine yh (yb ?_)
    replace h:=ifS h; rcases h with ⟨g17,h⟩ | ⟨g17,h⟩
    ·refine yab (Wp.skip (yb ?_))
     exact yt [.kill [76,83]] (zsl h)
    ·refine yaa ?_
     refine yh (yb ?_)
     exact yt [.kill [76,83]] (zsl h)
theorem zsj{r0:ye}{x0:yg}{v69:Bool}{r:(ye × (List yg))} (h:zgv r0 x0 v69=some r):Wp Pg 116 0 (.cond (.t 69) (.reg none yady) .skip) ⟨[(0,.bad),(1,.bad),(2,.ptr 0 0),(3,.ptr 1 0),(4,.ptr 2 0),(5,.bad),(6,.ptr 3 0),(7,.bad),(46,.bad),(69,.bool v69),(75,.bad),(76,.bad),(83,.bad),(90,.bad),(94,.bad),(100,.bad),(108,.bad)],[],(zus r0 x0 (0:Int) (0:Int) (0:Int) (0:Int) (0:Int) (0:Int) (0:Int) (0:Int) (0:Int) (0:Int) (0:Int)),4⟩ (yav Pg 116 0 (.seq (.seq (.reg none ywt) (.block 0 (.seq (.reg none ywu) (.cond (.t 76) (.seq (.reg none ywv) .ret) (.seq (.reg none ytl) (.cond (.t 83) (.seq (.reg none ytm) .ret) (.seq (.seq (.reg none ytn) (.cond (.t 90) .skip (.reg none yto))) (.cond (.t 90) (.seq (.reg none ypw) (.cond (.t 94) (.seq (.reg none ypx) .ret) .skip)) (.seq (.seq (.reg none ypy) (.cond (.t 100) .skip (.reg none ypz))) (.cond (.t 100) (.seq (.reg none yne) .ret) (.seq (.reg none ynf) (.cond (.t 108) (.seq (.reg none yng) .ret) .skip)))))))))))) (.seq (.reg none ylq) .ret)) (ysd r)):=by
  unfold zgv at h
  replace h:=ifS h; rcases h with ⟨g11,h⟩ | ⟨g11,h⟩
  ·refine yab (Wp.reg ?_)
   replace h:=yx h; obtain ⟨r0_1,g12,h⟩:=h
   refine yew 4 (yp (zly g12) (yf _)) ?_
   refine yak (yf _) (yb ?_)
   exact yt [.kill [2,69],.cell 6 11 .frz,.cell 6 12 .frz,.cell 6 13 .frz,.tidy] (zsk h)
  ·refine yaa (Wp.skip (yb ?_))
   exact yt [.kill [2,69],.tidy] (zsk h)
theorem zoq{r0:ye}{x0:yg}{quiet:Bool}{r:(ye × (List yg))} (h:zet r0 x0 quiet=some r):Wp Pg 116 0 (.seq (.seq (.reg none yaoj) (.cond (.t 69) (.reg none yady) .skip)) (.seq (.seq (.reg none ywt) (.block 0 (.seq (.reg none ywu) (.cond (.t 76) (.seq (.reg none ywv) .ret) (.seq (.reg none ytl) (.cond (.t 83) (.seq (.reg none ytm) .ret) (.seq (.seq (.reg none ytn) (.cond (.t 90) .skip (.reg none yto))) (.cond (.t 90) (.seq (.reg none ypw) (.cond (.t 94) (.seq (.reg none ypx) .ret) .skip)) (.seq (.seq (.reg none ypy) (.cond (.t 100) .skip (.reg none ypz))) (.cond (.t 100) (.seq (.reg none yne) .ret) (.seq (.reg none ynf) (.cond (.t 108) (.seq (.reg none yng) .ret) .skip)))))))))))) (.seq (.reg none ylq) .ret))) ⟨[(0,.bad),(1,.bad),(2,.ptr 0 0),(3,.ptr 1 0),(4,.ptr 2 0),(5,.bad),(6,.ptr 3 0),(7,.bool quiet),(46,.bad),(69,.bad),(75,.bad),(76,.bad),(83,.bad),(90,.bad),(94,.bad),(100,.bad),(108,.bad)],[],(zus r0 x0 (0:Int) (0:Int) (0:Int) (0:Int) (0:Int) (0:Int) (0:Int) (0:Int) (0:Int) (0:Int) (0:Int)),4⟩ (ysd r):=by
  unfold zet at h
  refine Wp.seq (Wp.seq ?_)
  replace h:=ifS h; rcases h with ⟨g10,h⟩ | ⟨g10,h⟩
  ·refine yh (yb ?_)
   exact yt [.kill [7]] (zsj h)
  ·refine yh (yb ?_)
   exact yt [.kill [7]] (zsj h)
theorem zdl{r0:ye}{x0:yg}{v46:Bool}{r:(ye × (List yg))} (h:zac r0 x0 v46=some r):Wp Pg 116 0 (.cond (.t 46) (.seq (.reg none ybje) .ret) .skip) ⟨[(0,.bad),(1,.bad),(2,.ptr 0 0),(3,.ptr 1 0),(4,.ptr 2 0),(5,.bad),(6,.bad),(7,.bad),(46,.bool v46),(69,.bad),(75,.bad),(76,.bad),(83,.bad),(90,.bad),(94,.bad),(100,.bad),(108,.bad)],[],(zwe r0 x0 (0:Int) (0:Int) (0:Int) (0:Int) (0:Int) (0:Int) (0:Int) (0:Int) (0:Int) (0:Int) (0:Int)),3⟩ (yav Pg 116 0 (.seq (.reg none ybjf) (.seq (.reg none ybjg) (.seq (.seq (.reg none yaoj) (.cond (.t 69) (.reg none yady) .skip)) (.seq (.seq (.reg none ywt) (.block 0 (.seq (.reg none ywu) (.cond (.t 76) (.seq (.reg none ywv) .ret) (.seq (.reg none ytl) (.cond (.t 83) (.seq (.reg none ytm) .ret) (.seq (.seq (.reg none ytn) (.cond (.t 90) .skip (.reg none yto))) (.cond (.t 90) (.seq (.reg none ypw) (.cond (.t 94) (.seq (.reg none ypx) .ret) .skip)) (.seq (.seq (.reg none ypy) (.cond (.t 100) .skip (.reg none ypz))) (.cond (.t 100) (.seq (.reg none yne) .ret) (.seq (.reg none ynf) (.cond (.t 108) (.seq (.reg none yng) .ret) .skip)))))))))))) (.seq (.reg none ylq) .ret))))) (ysd r)):=by
  unfold zac at h
  replace h:=ifS h; rcases h with ⟨g7,h⟩ | ⟨g7,h⟩
  ·replace h:=yah h; subst h
   refine yab (Wp.seq ?_)
   refine yh (yb ?_)
   refine yai [.at 5 .frz] (Wp.ret (yax ?_))
   exact yan
  ·refine yaa (Wp.skip (yb (Wp.seq ?_)))
   refine yh (yb (Wp.seq ?_))
   replace h:=ifS h; rcases h with ⟨g8,h⟩ | ⟨g8,h⟩
   ·refine yh (yb ?_)
    exact yt [.kill [46],.tidy] (zoq h)
   ·replace h:=ifS h; rcases h with ⟨g9,h⟩ | ⟨g9,h⟩
    ·refine yh (yb ?_)
     exact yt [.kill [46],.tidy] (zoq h)
    ·refine yh (yb ?_)
     exact yt [.kill [46],.tidy] (zoq h)
theorem zaat{r0:ye}{x0:yg}{r:(ye × (List yg))} (h:znc r0 x0=some r):yag Pg 21 [.agg [.int .i64 r0.Id,.int .i64 r0.N,.int .i64 r0.Term,.int .i64 r0.yac,.int .i64 r0.yv,.int .i64 r0.yaf,.int .i64 r0.yj.yn,.int .i64 r0.yj.yi,sl yc.c r0.yj.Entries,.int .i64 r0.yl,sl (ci .u8) r0.yy,sl cb r0.ym,sl (ci .i64) r0.Next,sl (ci .i64) r0.yr,.int .i64 r0.yu,.int .i64 r0.yae],.agg [.int .i64 x0.yar,.int .i64 x0.yct,.int .i64 x0.From,.int .i64 x0.To,.int .i64 x0.Term,.int .i64 x0.At,.int .i64 x0.ybd,.int .i64 x0.yl,.bool x0.Ok,sl yc.c x0.Entries,sl (ci .u8) x0.ybq]] [] 0 (.tup [.agg [.int .i64 r.1.Id,.int .i64 r.1.N,.int .i64 r.1.Term,.int .i64 r.1.yac,.int .i64 r.1.yv,.int .i64 r.1.yaf,.int .i64 r.1.yj.yn,.int .i64 r.1.yj.yi,sl yc.c r.1.yj.Entries,.int .i64 r.1.yl,sl (ci .u8) r.1.yy,sl cb r.1.ym,sl (ci .i64) r.1.Next,sl (ci .i64) r.1.yr,.int .i64 r.1.yu,.int .i64 r.1.yae],sl yg.c r.2]) [] 0:=by
  refine yag.intro Tryz.func21 ybjh (yad rfl) ?_
  show Wp Pg 116 0 yazs ⟨yal _ yazt,[],_,_⟩ (ysd r)
  unfold znc at h
  unfold yazs
  refine yai [] ?_
  refine Wp.seq (yh (yb (Wp.seq (Wp.seq ?_))))
  replace h:=ifS h; rcases h with ⟨g1,h⟩ | ⟨g1,h⟩
  ·refine yh (yb ?_)
   exact yt [.kill [0,1,5,6,7,69,75,76,83,90,94,100,108],.tidy] (zdl h)
  ·replace h:=ifS h; rcases h with ⟨g2,h⟩ | ⟨g2,h⟩
   ·refine yh (yb ?_)
    exact yt [.kill [0,1,5,6,7,69,75,76,83,90,94,100,108],.tidy] (zdl h)
   ·replace h:=ifS h; rcases h with ⟨g3,h⟩ | ⟨g3,h⟩
    ·refine yh (yb ?_)
     exact yt [.kill [0,1,5,6,7,69,75,76,83,90,94,100,108],.tidy] (zdl h)
    ·replace h:=ifS h; rcases h with ⟨g4,h⟩ | ⟨g4,h⟩
     ·refine yh (yb ?_)
      exact yt [.kill [0,1,5,6,7,69,75,76,83,90,94,100,108],.tidy] (zdl h)
     ·replace h:=ifS h; rcases h with ⟨g5,h⟩ | ⟨g5,h⟩
      ·refine yh (yb ?_)
       exact yt [.kill [0,1,5,6,7,69,75,76,83,90,94,100,108],.tidy] (zdl h)
      ·replace h:=ifS h; rcases h with ⟨g6,h⟩ | ⟨g6,h⟩
       ·refine yh (yb ?_)
        exact yt [.kill [0,1,5,6,7,69,75,76,83,90,94,100,108],.tidy] (zdl h)
       ·refine yh (yb ?_)
        exact yt [.kill [0,1,5,6,7,69,75,76,83,90,94,100,108],.tidy] (zdl h)
noncomputable abbrev ydsm(r:(ye × Int × (List yg) × Int)):Ex→St→Prop:=yay 0 [.cell 4 true 16,.tmp 5,.tmp 6,.tmp 7] (.tup [.agg [.int .i64 r.1.Id,.int .i64 r.1.N,.int .i64 r.1.Term,.int .i64 r.1.yac,.int .i64 r.1.yv,.int .i64 r.1.yaf,.int .i64 r.1.yj.yn,.int .i64 r.1.yj.yi,sl yc.c r.1.yj.Entries,.int .i64 r.1.yl,sl (ci .u8) r.1.yy,sl cb r.1.ym,sl (ci .i64) r.1.Next,sl (ci .i64) r.1.yr,.int .i64 r.1.yu,.int .i64 r.1.yae],.int .i64 r.2.1,sl yg.c r.2.2.1,.int .i64 r.2.2.2]) [] 0
theorem zaas{r0:ye}{data:(List Int)}{r:(ye × Int × (List yg) × Int)} (h:znb r0 data=some r):yag Pg 22 [.agg [.int .i64 r0.Id,.int .i64 r0.N,.int .i64 r0.Term,.int .i64 r0.yac,.int .i64 r0.yv,.int .i64 r0.yaf,.int .i64 r0.yj.yn,.int .i64 r0.yj.yi,sl yc.c r0.yj.Entries,.int .i64 r0.yl,sl (ci .u8) r0.yy,sl cb r0.ym,sl (ci .i64) r0.Next,sl (ci .i64) r0.yr,.int .i64 r0.yu,.int .i64 r0.yae],sl (ci .u8) data] [] 0 (.tup [.agg [.int .i64 r.1.Id,.int .i64 r.1.N,.int .i64 r.1.Term,.int .i64 r.1.yac,.int .i64 r.1.yv,.int .i64 r.1.yaf,.int .i64 r.1.yj.yn,.int .i64 r.1.yj.yi,sl yc.c r.1.yj.Entries,.int .i64 r.1.yl,sl (ci .u8) r.1.yy,sl cb r.1.ym,sl (ci .i64) r.1.Next,sl (ci .i64) r.1.yr,.int .i64 r.1.yu,.int .i64 r.1.yae],.int .i64 r.2.1,sl yg.c r.2.2.1,.int .i64 r.2.2.2]) [] 0:=by
  refine yag.intro Tryz.func22 ybji (yad rfl) ?_
  show Wp Pg 25 0 yazu ⟨yal _ yazv,[],_,_⟩ (ydsm r)
  unfold znb at h
  unfold yazu
  refine yai [] ?_
  refine Wp.seq (yh (yb (Wp.seq (Wp.seq ?_))))
  refine yh (yb ?_)
  replace h:=ifS h; rcases h with ⟨g1,h⟩ | ⟨g1,h⟩
  ·replace h:=yah h; subst h
   refine yab (Wp.seq ?_)
   refine yh (yb ?_)
   refine yai [.at 6 .frz] (Wp.ret (yax ?_))
   exact yan
  ·refine yaa (Wp.skip (yb (Wp.seq (Wp.reg ?_))))
   replace h:=yx h; obtain ⟨r0_1,g2,h⟩:=h
   refine yaq 3 (yp (zvr g2) (yf _)) ?_
   refine yak (yf _) (yb (Wp.seq ?_))
   replace h:=yx h; obtain ⟨r0_2,g3,h⟩:=h
   replace h:=yah h; subst h
   refine yap [] yao (ybk 3 (yp (zdt g3) (yf _)) (yau _)) (yb (Wp.ret ?_))
   exact yan
noncomputable abbrev ydsu(r:(yz × Int)):Ex→St→Prop:=yay 0 [.cell 4 true 3,.tmp 5] (.tup [.agg [.int .i64 r.1.yn,.int .i64 r.1.yi,sl yc.c r.1.Entries],.int .i64 r.2]) [] 0
theorem zaam{l:yz}{at0:Int}{r:(yz × Int)} (h:zmx l at0=some r):yag Pg 68 [.agg [.int .i64 l.yn,.int .i64 l.yi,sl yc.c l.Entries],.int .i64 at0] [] 0 (.tup [.agg [.int .i64 r.1.yn,.int .i64 r.1.yi,sl yc.c r.1.Entries],.int .i64 r.2]) [] 0:=by
  refine yag.intro Tryz.func68 ybmn (yad rfl) ?_
  show Wp Pg 27 0 ybcd ⟨yal _ ybce,[],_,_⟩ (ydsu r)
  unfold zmx at h
  unfold ybcd
  refine yai [] ?_
  refine Wp.seq (yh (yb (Wp.seq (Wp.reg ?_))))
  replace h:=yx h; obtain ⟨r0,g1,h⟩:=h
  refine yaq 3 (yp (zcv g1) (yf _)) ?_
  refine yak (yf _) (yb (Wp.seq (Wp.seq ?_)))
  refine yh (yb ?_)
  replace h:=ifS h; rcases h with ⟨g2,h⟩ | ⟨g2,h⟩
  ·refine yaa (Wp.skip (yb (Wp.seq (Wp.reg ?_))))
   replace h:=yx h; obtain ⟨r0_1,g3,h⟩:=h
   replace h:=yah h; subst h
   refine yaq 9 (yp (zsy g3) (yf _)) ?_
   refine yak (yf _) (yb (Wp.ret ?_))
   exact yan
  ·replace h:=yah h; subst h
   refine yab (Wp.seq ?_)
   refine yh (yb ?_)
   refine yai [.cell 4 2 .frz] (Wp.ret (yax ?_))
   exact yan
noncomputable abbrev ycda(r:(ye × Int)):Ex→St→Prop:=yay 0 [.cell 6 true 16,.tmp 7] (.tup [.agg [.int .i64 r.1.Id,.int .i64 r.1.N,.int .i64 r.1.Term,.int .i64 r.1.yac,.int .i64 r.1.yv,.int .i64 r.1.yaf,.int .i64 r.1.yj.yn,.int .i64 r.1.yj.yi,sl yc.c r.1.yj.Entries,.int .i64 r.1.yl,sl (ci .u8) r.1.yy,sl cb r.1.ym,sl (ci .i64) r.1.Next,sl (ci .i64) r.1.yr,.int .i64 r.1.yu,.int .i64 r.1.yae],.int .i64 r.2]) [] 0
theorem zsi{r0:ye}{upto:Int}{snap:(List Int)}{v21:Bool}{r:(ye × Int)} (h:zes r0 upto snap v21=some r):Wp Pg 40 0 (.cond (.t 21) (.seq (.reg none ybjj) .ret) .skip) ⟨[(0,.bad),(1,.int .i64 upto),(2,sl (ci .u8) snap),(3,.ptr 0 0),(6,.ptr 1 0),(7,.bad),(8,.bad),(9,.bad),(10,.bad),(21,.bool v21),(31,.bad)],[],(zadt r0 (0:Int) (0:Int) (0:Int) (0:Int) (0:Int) (0:Int) (0:Int) (0:Int) (0:Int) (0:Int) (0:Int)),2⟩ (yav Pg 40 0 (.seq (.reg none ybjk) (.seq (.seq (.reg none ybjl) (.cond (.t 31) (.seq (.reg none ybjm) .ret) .skip)) (.seq (.reg none ybjn) (.seq (.reg none ybjo) (.seq (.reg none ybjp) (.seq (.reg none ybjq) .ret)))))) (ycda r)):=by
  unfold zes at h
  replace h:=ifS h; rcases h with ⟨g2,h⟩ | ⟨g2,h⟩
  ·replace h:=yah h; subst h
   refine yab (Wp.seq ?_)
   refine yh (yb (Wp.ret (yax ?_)))
   exact yan
  ·refine yaa (Wp.skip (yb (Wp.seq (Wp.reg ?_))))
   replace h:=yx h; obtain ⟨r0_1,g3,h⟩:=h
   refine yaq 4 (yp (zaam g3) (yf _)) ?_
   refine yak (yf _) (yb (Wp.seq (Wp.seq ?_)))
   refine yh (yb ?_)
   replace h:=ifS h; rcases h with ⟨g4,h⟩ | ⟨g4,h⟩
   ·replace h:=yah h; subst h
    refine yab (Wp.seq ?_)
    refine yh (yb (Wp.ret (yax ?_)))
    exact yan
   ·replace h:=yah h; subst h
    refine yaa (Wp.skip (yb (Wp.seq ?_)))
    refine yh (yb (Wp.seq ?_))
    refine yh (yb (Wp.seq ?_))
    refine yh (yb (Wp.seq ?_))
    refine yh (yb (Wp.ret ?_))
    exact yan
theorem zaar{r0:ye}{upto:Int}{snap:(List Int)}{r:(ye × Int)} (h:zna r0 upto snap=some r):yag Pg 23 [.agg [.int .i64 r0.Id,.int .i64 r0.N,.int .i64 r0.Term,.int .i64 r0.yac,.int .i64 r0.yv,.int .i64 r0.yaf,.int .i64 r0.yj.yn,.int .i64 r0.yj.yi,sl yc.c r0.yj.Entries,.int .i64 r0.yl,sl (ci .u8) r0.yy,sl cb r0.ym,sl (ci .i64) r0.Next,sl (ci .i64) r0.yr,.int .i64 r0.yu,.int .i64 r0.yae],.int .i64 upto,sl (ci .u8) snap] [] 0 (.tup [.agg [.int .i64 r.1.Id,.int .i64 r.1.N,.int .i64 r.1.Term,.int .i64 r.1.yac,.int .i64 r.1.yv,.int .i64 r.1.yaf,.int .i64 r.1.yj.yn,.int .i64 r.1.yj.yi,sl yc.c r.1.yj.Entries,.int .i64 r.1.yl,sl (ci .u8) r.1.yy,sl cb r.1.ym,sl (ci .i64) r.1.Next,sl (ci .i64) r.1.yr,.int .i64 r.1.yu,.int .i64 r.1.yae],.int .i64 r.2]) [] 0:=by
  refine yag.intro Tryz.func23 ybjr (yad rfl) ?_
  show Wp Pg 40 0 yazw ⟨yal _ yazx,[],_,_⟩ (ycda r)
  unfold zna at h
  unfold yazw
  refine yai [] ?_
  refine Wp.seq (yh (yb (Wp.seq (Wp.seq ?_))))
  replace h:=ifS h; rcases h with ⟨g1,h⟩ | ⟨g1,h⟩
  ·refine yh (yb ?_)
   exact yt [.kill [0,7,8,9,10,31],.tidy] (zsi h)
  ·refine yh (yb ?_)
   exact yt [.kill [0,7,8,9,10,31],.tidy] (zsi h)
noncomputable abbrev yafo(r:Int):Ex→St→Prop:=yay 0 [.tmp 2] (.int .i64 r) [] 0
noncomputable abbrev zrc(l:yz)(rec0:Int→Int→Option Int)(r:Int):Prop:=∀ {term v39:Int},rec0 term v39=some r→LWp Pg 55 0 ytv ⟨[(0,.bad),(1,.bad),(2,.bad),(3,.int .i64 term),(5,.bad),(32,.bad),(37,sl yc.c l.Entries),(38,.int .i64 (l.Entries.length:Int)),(39,.int .i64 v39),(40,.bad),(51,.bad)],[],[],0⟩ (yam 0 (yav Pg 55 0 (.seq (.reg none ytw) .ret) (yafo r)))
theorem ztz{l:yz}{v39:Int}{e:yc}{v51:Bool}{r:Int}{zbd:Int→Int→Option Int}(zkr:zrc l zbd r)(h:zhh zbd v39 e v51=some r):Wp Pg 55 0 (.cond (.t 51) (.seq (.reg none ybms) .ret) .skip) ⟨[(0,.bad),(1,.bad),(2,.bad),(3,.bad),(5,.ptr 0 0),(32,.bad),(37,sl yc.c l.Entries),(38,.int .i64 (l.Entries.length:Int)),(39,.int .i64 v39),(40,.bad),(51,.bool v51)],[],[(0,.box [.int .i64 e.Term,sl (ci .u8) e.ybq])],1⟩ (yav Pg 55 0 (.reg none ybmt) (yam 1 (yav Pg 55 0 (.reg none yawc) (ydl Pg 55 0 ytv (yam 0 (yav Pg 55 0 (.seq (.reg none ytw) .ret) (yafo r))))))):=by
  unfold zhh at h
  replace h:=ifS h; rcases h with ⟨g9,h⟩ | ⟨g9,h⟩
  ·replace h:=yah h; subst h
   refine yab (Wp.seq ?_)
   refine yh (yb (Wp.ret (yax (ybn (yax (ymi (ybn (yax ?_))))))))
   exact yan
  ·refine yaa (Wp.skip (yb ?_))
   refine yh (ybh (yb ?_))
   refine yh (ydk ?_)
   exact ybl [.kill [5,51],.tidy] (zkr h)
theorem zyp{l:yz}{r:Int} {zbd:Int→Int→Option Int}(zkr:zrc l zbd r){term v39:Int}(h:zfo l zbd term v39=some r):LWp Pg 55 0 ytv ⟨[(0,.bad),(1,.bad),(2,.bad),(3,.int .i64 term),(5,.bad),(32,.bad),(37,sl yc.c l.Entries),(38,.int .i64 (l.Entries.length:Int)),(39,.int .i64 v39),(40,.bad),(51,.bad)],[],[],0⟩ (yam 0 (yav Pg 55 0 (.seq (.reg none ytw) .ret) (yafo r))):=by
  unfold zfo at h
  refine LWp.stepC ytv.eq_1 ?_
  refine Wp.seq (yh (yb (Wp.seq ?_)))
  replace h:=ifS h; rcases h with ⟨g6,h⟩ | ⟨g6,h⟩
  ·refine yab (Wp.skip (yb (Wp.seq (Wp.block (Wp.seq ?_)))))
   replace h:=yx h; obtain ⟨e,g7,h⟩:=h
   refine yh (yb (Wp.seq (Wp.seq ?_)))
   replace h:=ifS h; rcases h with ⟨g8,h⟩ | ⟨g8,h⟩
   ·refine yh (yb ?_)
    exact yt [.kill [3,40]] (ztz (l:=l) zkr h)
   ·refine yh (yb ?_)
    exact yt [.kill [3,40]] (ztz (l:=l) zkr h)
  ·replace h:=yah h; subst h
   refine yaa (Wp.out (ydy (ydi (ycn (yb (Wp.seq ?_))))))
   refine yh (yb (Wp.ret ?_))
   exact yan
theorem zaag{l:yz}{r:Int}:∀ (n:Nat),zrc l (zah l n) r:=by
  intro n
  induction n with
  | zero=>intro term v39 h; unfold zah at h; cases h
  | succ n ih=>intro term v39 h; unfold zah at h; exact zyp ih h
theorem zkm{l:yz}{v32:Bool}{r:Int} (h:zcw l v32=some r):Wp Pg 55 0 (.cond (.t 32) (.seq (.reg none ybmp) .ret) .skip) ⟨[(0,.bad),(1,.ptr 0 0),(2,.bad),(3,.bad),(5,.bad),(32,.bool v32),(37,.bad),(38,.bad),(39,.bad),(40,.bad),(51,.bad)],[],[(0,.box [.int .i64 l.yn,.int .i64 l.yi,sl yc.c l.Entries])],1⟩ (yav Pg 55 0 (.seq (.reg none ybmq) (.seq (.seq (.reg none ybmr) (.block 0 (.loop ytv))) (.seq (.reg none ytw) .ret))) (yafo r)):=by
  unfold zcw at h
  replace h:=ifS h; rcases h with ⟨g5,h⟩ | ⟨g5,h⟩
  ·replace h:=yah h; subst h
   refine yab (Wp.seq ?_)
   refine yh (yb (Wp.ret (yax ?_)))
   exact yan
  ·refine yaa (Wp.skip (yb (Wp.seq ?_)))
   refine yh (yb (Wp.seq (Wp.seq ?_)))
   refine yh (yb (Wp.block (Wp.loop ?_)))
   exact ybl [.kill [1,32],.tidy] (zaag _ h)
theorem zach{l:yz}{r:Int} (h:zlo l=some r):yag Pg 70 [.agg [.int .i64 l.yn,.int .i64 l.yi,sl yc.c l.Entries]] [] 0 (.int .i64 r) [] 0:=by
  refine yag.intro Tryz.func70 ybmu (yad rfl) ?_
  show Wp Pg 55 0 ybci ⟨yal _ ybcj,[],_,_⟩ (yafo r)
  unfold zlo at h
  unfold ybci
  refine yai [] ?_
  refine Wp.seq (yh (yb (Wp.seq (Wp.seq ?_))))
  replace h:=ifS h; rcases h with ⟨g1,h⟩ | ⟨g1,h⟩
  ·refine yh (yb ?_)
   exact yt [.kill [0,2,3,5,37,38,39,40,51]] (zkm h)
  ·replace h:=ifS h; rcases h with ⟨g2,h⟩ | ⟨g2,h⟩
   ·refine yh (yb ?_)
    exact yt [.kill [0,2,3,5,37,38,39,40,51]] (zkm h)
   ·replace h:=ifS h; rcases h with ⟨g3,h⟩ | ⟨g3,h⟩
    ·refine yh (yb ?_)
     exact yt [.kill [0,2,3,5,37,38,39,40,51]] (zkm h)
    ·replace h:=ifS h; rcases h with ⟨g4,h⟩ | ⟨g4,h⟩
     ·refine yh (yb ?_)
      exact yt [.kill [0,2,3,5,37,38,39,40,51]] (zkm h)
     ·refine yh (yb ?_)
      exact yt [.kill [0,2,3,5,37,38,39,40,51]] (zkm h)
noncomputable abbrev ycdb(r:(ye × Int)):Ex→St→Prop:=yay 0 [.cell 12 true 16,.tmp 13] (.tup [.agg [.int .i64 r.1.Id,.int .i64 r.1.N,.int .i64 r.1.Term,.int .i64 r.1.yac,.int .i64 r.1.yv,.int .i64 r.1.yaf,.int .i64 r.1.yj.yn,.int .i64 r.1.yj.yi,sl yc.c r.1.yj.Entries,.int .i64 r.1.yl,sl (ci .u8) r.1.yy,sl cb r.1.ym,sl (ci .i64) r.1.Next,sl (ci .i64) r.1.yr,.int .i64 r.1.yu,.int .i64 r.1.yae],.int .i64 r.2]) [] 0
theorem zgc{term vote:Int}{l:yz}{snap:(List Int)}{r0:(ye × Int)}{v27:Bool}{r:(ye × Int)} (h:zaj term vote l snap r0 v27=some r):Wp Pg 69 0 (.cond (.t 27) (.seq (.reg none ybjs) .ret) .skip) ⟨[(0,.bad),(1,.bad),(2,.int .i64 term),(3,.int .i64 vote),(4,.bad),(5,sl (ci .u8) snap),(10,.ptr 0 0),(12,.ptr 1 0),(13,.bad),(14,.ptr 2 0),(15,.bad),(22,.bad),(27,.bool v27)],[],(zadc r0.1 l.yn l.yi l.Entries (0:Int) (0:Int) (0:Int) (0:Int) (0:Int) (0:Int) (0:Int) (0:Int) (0:Int) (0:Int) (0:Int)),3⟩ (yam 0 (yav Pg 69 0 (.seq (.reg (some [(3,5),(5,7),(5,9),(5,11),(5,13)]) ybjt) (.seq (.reg none ybju) .ret)) (ycdb r))):=by
  unfold zaj at h
  replace h:=ifS h; rcases h with ⟨g10,h⟩ | ⟨g10,h⟩
  ·replace h:=yah h; subst h
   refine yab (Wp.seq ?_)
   refine yh (yb ?_)
   refine yai [.cell 12 8 .frz,.cell 12 10 .frz,.cell 12 11 .frz,.cell 12 12 .frz,.cell 12 13 .frz] (Wp.ret (ybn (yax ?_)))
   exact yan
  ·refine yaa (Wp.skip (ybh (yb (Wp.seq ?_))))
   replace h:=yx h; obtain ⟨r0_3,g11,h⟩:=h
   replace h:=ycw h; obtain ⟨g12,h⟩:=h
   replace h:=yah h; subst h
   refine yap [42] yao (ybk 3 (yp (zkf g11) (yf _)) (yau _)) (yb (Wp.seq ?_))
   refine yh (yb ?_)
   refine yai [.cell 12 8 .frz,.cell 12 10 .frz] (Wp.ret ?_)
   exact yan
theorem zvi{id:Int}{n0:Int}{term:Int}{vote:Int}{l:yz}{snap:(List Int)}{r:(ye × Int)} (h:zfd id n0 term vote l snap=some r):yag Pg 24 [.int .i64 id,.int .i64 n0,.int .i64 term,.int .i64 vote,.agg [.int .i64 l.yn,.int .i64 l.yi,sl yc.c l.Entries],sl (ci .u8) snap] [] 0 (.tup [.agg [.int .i64 r.1.Id,.int .i64 r.1.N,.int .i64 r.1.Term,.int .i64 r.1.yac,.int .i64 r.1.yv,.int .i64 r.1.yaf,.int .i64 r.1.yj.yn,.int .i64 r.1.yj.yi,sl yc.c r.1.yj.Entries,.int .i64 r.1.yl,sl (ci .u8) r.1.yy,sl cb r.1.ym,sl (ci .i64) r.1.Next,sl (ci .i64) r.1.yr,.int .i64 r.1.yu,.int .i64 r.1.yae],.int .i64 r.2]) [] 0:=by
  refine yag.intro Tryz.func24 ybjv (yad rfl) ?_
  show Wp Pg 69 0 yazy ⟨yal _ yazz,[],_,_⟩ (ycdb r)
  unfold zfd at h
  unfold yazy
  refine yai [] ?_
  refine Wp.seq (yh (yb (Wp.seq (Wp.reg ?_))))
  replace h:=yx h; obtain ⟨r0,g1,h⟩:=h
  refine yaq 3 (yp (zzq g1) (yf _)) ?_
  refine yak (yf _) (yb (Wp.seq (Wp.block (Wp.seq ?_))))
  refine yh (yb ?_)
  replace h:=ifS h; rcases h with ⟨g2,h⟩ | ⟨g2,h⟩
  ·replace h:=yah h; subst h
   refine yab (Wp.seq ?_)
   refine yh (yb ?_)
   refine yai [.cell 12 8 .frz,.cell 12 10 .frz,.cell 12 11 .frz,.cell 12 12 .frz,.cell 12 13 .frz] (Wp.ret (ybn (yax ?_)))
   exact yan
  ·refine yaa (Wp.seq (Wp.reg ?_))
   replace h:=ifS h; rcases h with ⟨g3,h⟩ | ⟨g3,h⟩
   ·refine yak (yf _) (yb ?_)
    exact yt [.kill [0,1,4,13,15,22],.tidy] (zgc h)
   ·replace h:=ifS h; rcases h with ⟨g4,h⟩ | ⟨g4,h⟩
    ·refine yak (yf _) (yb ?_)
     exact yt [.kill [0,1,4,13,15,22],.tidy] (zgc h)
    ·replace h:=ifS h; rcases h with ⟨g5,h⟩ | ⟨g5,h⟩
     ·refine yak (yf _) (yb ?_)
      exact yt [.kill [0,1,4,13,15,22],.tidy] (zgc h)
     ·replace h:=ifS h; rcases h with ⟨g6,h⟩ | ⟨g6,h⟩
      ·refine yak (yf _) (yb ?_)
       exact yt [.kill [0,1,4,13,15,22],.tidy] (zgc h)
      ·replace h:=yx h; obtain ⟨r0_1,g7,h⟩:=h
       refine yaq 18 (yp (znq g7) (yf _)) ?_
       replace h:=ifS h; rcases h with ⟨g8,h⟩ | ⟨g8,h⟩
       ·refine yak (yf _) (yb ?_)
        exact yt [.kill [0,1,4,13,15,22],.tidy] (zgc h)
       ·replace h:=yx h; obtain ⟨r0_2,g9,h⟩:=h
        refine yaq 6 (yp (zach g9) (yf _)) ?_
        refine yak (yf _) (yb ?_)
        exact yt [.kill [0,1,4,13,15,22],.tidy] (zgc h)
noncomputable abbrev ycdf(r:(ye × Int)):Ex→St→Prop:=yay 0 [.cell 4 true 16,.tmp 5] (.tup [.agg [.int .i64 r.1.Id,.int .i64 r.1.N,.int .i64 r.1.Term,.int .i64 r.1.yac,.int .i64 r.1.yv,.int .i64 r.1.yaf,.int .i64 r.1.yj.yn,.int .i64 r.1.yj.yi,sl yc.c r.1.yj.Entries,.int .i64 r.1.yl,sl (ci .u8) r.1.yy,sl cb r.1.ym,sl (ci .i64) r.1.Next,sl (ci .i64) r.1.yr,.int .i64 r.1.yu,.int .i64 r.1.yae],.int .i64 r.2]) [] 0
theorem zop{id n0:Int}{v20:Bool}{r:(ye × Int)} (h:zll id n0 v20=some r):Wp Pg 27 0 (.cond (.t 20) (.seq (.reg none ybmv) .ret) .skip) ⟨[(0,.int .i64 id),(1,.int .i64 n0),(4,.ptr 0 0),(5,.bad),(20,.bool v20)],[],(hp3 (0:Int) (0:Int) (0:Int) (0:Int) (0:Int) (0:Int) (0:Int) (0:Int) (0:Int) (0:Int) (0:Int)),1⟩ (yav Pg 27 0 (.seq (.reg none ybmw) .ret) (ycdf r)):=by
  unfold zll at h
  replace h:=ifS h; rcases h with ⟨g4,h⟩ | ⟨g4,h⟩
  ·replace h:=yah h; subst h
   refine yab (Wp.seq ?_)
   refine yh (yb ?_)
   refine yai [.cell 4 8 .frz,.cell 4 10 .frz,.cell 4 11 .frz,.cell 4 12 .frz,.cell 4 13 .frz] (Wp.ret (yax ?_))
   exact yan
  ·replace h:=yah h; subst h
   refine yaa (Wp.skip (yb (Wp.seq ?_)))
   refine yh (yb ?_)
   refine yai [.cell 4 8 .frz,.cell 4 10 .frz,.cell 4 11 .frz,.cell 4 12 .frz,.cell 4 13 .frz] (Wp.ret ?_)
   exact yan
theorem zacu{id:Int}{n0:Int}{r:(ye × Int)} (h:ztb id n0=some r):yag Pg 71 [.int .i64 id,.int .i64 n0] [] 0 (.tup [.agg [.int .i64 r.1.Id,.int .i64 r.1.N,.int .i64 r.1.Term,.int .i64 r.1.yac,.int .i64 r.1.yv,.int .i64 r.1.yaf,.int .i64 r.1.yj.yn,.int .i64 r.1.yj.yi,sl yc.c r.1.yj.Entries,.int .i64 r.1.yl,sl (ci .u8) r.1.yy,sl cb r.1.ym,sl (ci .i64) r.1.Next,sl (ci .i64) r.1.yr,.int .i64 r.1.yu,.int .i64 r.1.yae],.int .i64 r.2]) [] 0:=by
  refine yag.intro Tryz.func71 ybmx (yad rfl) ?_
  show Wp Pg 27 0 ybck ⟨yal _ ybcl,[],_,_⟩ (ycdf r)
  unfold ztb at h
  unfold ybck
  refine yai [] ?_
  refine Wp.seq (yh (yb (Wp.seq (Wp.seq ?_))))
  replace h:=ifS h; rcases h with ⟨g1,h⟩ | ⟨g1,h⟩
  ·refine yh (yb ?_)
   exact yt [.kill [5]] (zop h)
  ·replace h:=ifS h; rcases h with ⟨g2,h⟩ | ⟨g2,h⟩
   ·refine yh (yb ?_)
    exact yt [.kill [5]] (zop h)
   ·replace h:=ifS h; rcases h with ⟨g3,h⟩ | ⟨g3,h⟩
    ·refine yh (yb ?_)
     exact yt [.kill [5]] (zop h)
    ·refine yh (yb ?_)
     exact yt [.kill [5]] (zop h)
noncomputable abbrev yzr(r:Int):Ex→St→Prop:=yay 0 [.tmp 2] (.int .i64 r) [] 0
noncomputable abbrev zqa(l:yz)(rec0:Int→Option Int)(r:Int):Prop:=∀ {i:Int},rec0 i=some r→LWp Pg 85 0 yrd ⟨[(0,.bad),(1,.ptr 0 0),(2,.bad),(3,.int .i64 (1099511627776:Int)),(4,.int .i64 i),(5,.bad),(25,.bad),(43,.bad),(48,.bad),(84,.bad)],[],[(0,.box [.int .i64 l.yn,.int .i64 l.yi,sl yc.c l.Entries])],1⟩ (yam 0 (yav Pg 85 0 (.seq (.reg none yqc) .ret) (yzr r)))
theorem zjp{l:yz}{i:Int}{v84:Bool}{r:Int}{zx:Int→Option Int}(zcs:zqa l zx r)(h:zep zx i v84=some r):Wp Pg 85 0 (.cond (.t 84) (.seq (.reg none yawd) .ret) .skip) ⟨[(0,.bad),(1,.ptr 0 0),(2,.bad),(3,.int .i64 (1099511627776:Int)),(4,.int .i64 i),(5,.bad),(25,.bad),(43,.bad),(48,.bad),(84,.bool v84)],[],[(0,.box [.int .i64 l.yn,.int .i64 l.yi,sl yc.c l.Entries])],1⟩ (yam 1 (yav Pg 85 0 (.reg none yawe) (ydl Pg 85 0 yrd (yam 0 (yav Pg 85 0 (.seq (.reg none yqc) .ret) (yzr r)))))):=by
  unfold zep at h
  replace h:=ifS h; rcases h with ⟨g17,h⟩ | ⟨g17,h⟩
  ·replace h:=yah h; subst h
   refine yab (Wp.seq ?_)
   refine yh (yb (Wp.ret (ybn (yax (ymi (ybn (yax ?_)))))))
   exact yan
  ·refine yaa (Wp.skip (ybh (yb ?_)))
   refine yh (ydk ?_)
   exact ybl [.kill [84]] (zcs h)
theorem zyd{l:yz}{r:Int} {zx:Int→Option Int}(zcs:zqa l zx r){i:Int}(h:zje l zx i=some r):LWp Pg 85 0 yrd ⟨[(0,.bad),(1,.ptr 0 0),(2,.bad),(3,.int .i64 (1099511627776:Int)),(4,.int .i64 i),(5,.bad),(25,.bad),(43,.bad),(48,.bad),(84,.bad)],[],[(0,.box [.int .i64 l.yn,.int .i64 l.yi,sl yc.c l.Entries])],1⟩ (yam 0 (yav Pg 85 0 (.seq (.reg none yqc) .ret) (yzr r))):=by
  unfold zje at h
  refine LWp.stepC yrd.eq_1 ?_
  refine Wp.seq (Wp.seq (yh (yb ?_)))
  replace h:=ifS h; rcases h with ⟨g10,h⟩ | ⟨g10,h⟩
  ·refine yab (Wp.skip (yb (Wp.seq (Wp.block (Wp.seq ?_)))))
   replace h:=yx h; obtain ⟨e,g11,h⟩:=h
   refine yh (yb (Wp.seq ?_))
   replace h:=ifS h; rcases h with ⟨g12,h⟩ | ⟨g12,h⟩
   ·refine yh (yb ?_)
    exact yt [.kill [5,48]] (zjp (l:=l) zcs h)
   ·replace h:=ifS h; rcases h with ⟨g13,h⟩ | ⟨g13,h⟩
    ·refine yh (yb ?_)
     exact yt [.kill [5,48]] (zjp (l:=l) zcs h)
    ·replace h:=ifS h; rcases h with ⟨g14,h⟩ | ⟨g14,h⟩
     ·refine yh (yb ?_)
      exact yt [.kill [5,48]] (zjp (l:=l) zcs h)
     ·replace h:=ifS h; rcases h with ⟨g15,h⟩ | ⟨g15,h⟩
      ·replace h:=yx h; obtain ⟨e_1,g16,h⟩:=h
       refine yh (yb ?_)
       exact yt [.kill [5,48]] (zjp (l:=l) zcs h)
      ·refine yh (yb ?_)
       exact yt [.kill [5,48]] (zjp (l:=l) zcs h)
  ·replace h:=yah h; subst h
   refine yaa (Wp.out (ydy (ydi (ycn (yb (Wp.seq ?_))))))
   refine yh (yb (Wp.ret ?_))
   exact yan
theorem zzr{l:yz}{r:Int}:∀ (n:Nat),zqa l (zab l n) r:=by
  intro n
  induction n with
  | zero=>intro i h; unfold zab at h; cases h
  | succ n ih=>intro i h; unfold zab at h; exact zyd ih h
theorem zjo{l:yz}{v43:Bool}{r:Int} (h:zeo l v43=some r):Wp Pg 85 0 (.cond (.t 43) (.seq (.reg none yapk) .ret) .skip) ⟨[(0,.bad),(1,.ptr 0 0),(2,.bad),(3,.int .i64 (1099511627776:Int)),(4,.bad),(5,.bad),(25,.bad),(43,.bool v43),(48,.bad),(84,.bad)],[],[(0,.box [.int .i64 l.yn,.int .i64 l.yi,sl yc.c l.Entries])],1⟩ (yav Pg 85 0 (.seq (.seq (.reg none yapl) (.block 0 (.loop yrd))) (.seq (.reg none yqc) .ret)) (yzr r)):=by
  unfold zeo at h
  replace h:=ifS h; rcases h with ⟨g9,h⟩ | ⟨g9,h⟩
  ·replace h:=yah h; subst h
   refine yab (Wp.seq ?_)
   refine yh (yb (Wp.ret (yax ?_)))
   exact yan
  ·refine yaa (Wp.skip (yb (Wp.seq (Wp.seq ?_))))
   refine yh (yb (Wp.block (Wp.loop ?_)))
   exact ybl [.kill [43]] (zzr _ h)
theorem znj{l:yz}{v25:Bool}{r:Int} (h:zgi l v25=some r):Wp Pg 85 0 (.cond (.t 25) (.seq (.reg none ybmz) .ret) .skip) ⟨[(0,.bad),(1,.ptr 0 0),(2,.bad),(3,.int .i64 (1099511627776:Int)),(4,.bad),(5,.bad),(25,.bool v25),(43,.bad),(48,.bad),(84,.bad)],[],[(0,.box [.int .i64 l.yn,.int .i64 l.yi,sl yc.c l.Entries])],1⟩ (yav Pg 85 0 (.seq (.seq (.reg none ybna) (.cond (.t 43) (.seq (.reg none yapk) .ret) .skip)) (.seq (.seq (.reg none yapl) (.block 0 (.loop yrd))) (.seq (.reg none yqc) .ret))) (yzr r)):=by
  unfold zgi at h
  replace h:=ifS h; rcases h with ⟨g4,h⟩ | ⟨g4,h⟩
  ·replace h:=yah h; subst h
   refine yab (Wp.seq ?_)
   refine yh (yb (Wp.ret (yax ?_)))
   exact yan
  ·refine yaa (Wp.skip (yb (Wp.seq (Wp.seq ?_))))
   replace h:=ifS h; rcases h with ⟨g5,h⟩ | ⟨g5,h⟩
   ·replace h:=ifS h; rcases h with ⟨g6,h⟩ | ⟨g6,h⟩
    ·refine yh (yb ?_)
     exact yt [.kill [25]] (zjo h)
    ·replace h:=ifS h; rcases h with ⟨g7,h⟩ | ⟨g7,h⟩
     ·refine yh (yb ?_)
      exact yt [.kill [25]] (zjo h)
     ·refine yh (yb ?_)
      exact yt [.kill [25]] (zjo h)
   ·replace h:=ifS h; rcases h with ⟨g8,h⟩ | ⟨g8,h⟩
    ·refine yh (yb ?_)
     exact yt [.kill [25]] (zjo h)
    ·refine yh (yb ?_)
     exact yt [.kill [25]] (zjo h)
theorem zaca{l:yz}{r:Int} (h:zmp l=some r):yag Pg 73 [.agg [.int .i64 l.yn,.int .i64 l.yi,sl yc.c l.Entries]] [] 0 (.int .i64 r) [] 0:=by
  refine yag.intro Tryz.func73 ybnb (yad rfl) ?_
  show Wp Pg 85 0 ybco ⟨yal _ ybcp,[],_,_⟩ (yzr r)
  unfold zmp at h
  unfold ybco
  refine yai [] ?_
  refine Wp.seq (yh (yb (Wp.seq ?_)))
  refine yh (yb (Wp.seq (Wp.seq ?_)))
  replace h:=ifS h; rcases h with ⟨g1,h⟩ | ⟨g1,h⟩
  ·refine yh (yb ?_)
   exact yt [.kill [0,2,4,5,43,48,84]] (znj h)
  ·replace h:=ifS h; rcases h with ⟨g2,h⟩ | ⟨g2,h⟩
   ·refine yh (yb ?_)
    exact yt [.kill [0,2,4,5,43,48,84]] (znj h)
   ·replace h:=ifS h; rcases h with ⟨g3,h⟩ | ⟨g3,h⟩
    ·refine yh (yb ?_)
     exact yt [.kill [0,2,4,5,43,48,84]] (znj h)
    ·refine yh (yb ?_)
     exact yt [.kill [0,2,4,5,43,48,84]] (znj h)
noncomputable abbrev ycdc(r:(ye × Int)):Ex→St→Prop:=yay 0 [.cell 12 true 16,.tmp 13] (.tup [.agg [.int .i64 r.1.Id,.int .i64 r.1.N,.int .i64 r.1.Term,.int .i64 r.1.yac,.int .i64 r.1.yv,.int .i64 r.1.yaf,.int .i64 r.1.yj.yn,.int .i64 r.1.yj.yi,sl yc.c r.1.yj.Entries,.int .i64 r.1.yl,sl (ci .u8) r.1.yy,sl cb r.1.ym,sl (ci .i64) r.1.Next,sl (ci .i64) r.1.yr,.int .i64 r.1.yu,.int .i64 r.1.yae],.int .i64 r.2]) [] 0
theorem zfj{term vote:Int}{l:yz}{snap:(List Int)}{r0:(ye × Int)}{v59:Bool}{r:(ye × Int)} (h:zbj term vote l snap r0 v59=some r):Wp Pg 73 0 (.cond (.t 59) (.seq (.reg none ybjw) .ret) .skip) ⟨[(0,.bad),(1,.bad),(2,.int .i64 term),(3,.int .i64 vote),(4,.bad),(5,sl (ci .u8) snap),(10,.ptr 0 0),(12,.ptr 1 0),(13,.bad),(14,.ptr 2 0),(15,.bad),(16,.bad),(25,.bad),(59,.bool v59)],[],(zadc r0.1 l.yn l.yi l.Entries (0:Int) (0:Int) (0:Int) (0:Int) (0:Int) (0:Int) (0:Int) (0:Int) (0:Int) (0:Int) (0:Int)),3⟩ (yav Pg 73 0 (.seq (.reg none ybjx) (.seq (.reg none ybjy) (.seq (.reg none ybjz) (.seq (.reg none yavy) (.seq (.reg none yavz) (.seq (.reg none yawa) .ret)))))) (ycdc r)):=by
  unfold zbj at h
  replace h:=ifS h; rcases h with ⟨g11,h⟩ | ⟨g11,h⟩
  ·replace h:=yah h; subst h
   refine yab (Wp.seq ?_)
   refine yh (yb ?_)
   refine yai [.cell 12 8 .frz,.cell 12 10 .frz,.cell 12 11 .frz,.cell 12 12 .frz,.cell 12 13 .frz] (Wp.ret (yax ?_))
   exact yan
  ·replace h:=yah h; subst h
   refine yaa (Wp.skip (yb (Wp.seq ?_)))
   refine yh (yb (Wp.seq ?_))
   refine yh (yb (Wp.seq ?_))
   refine yh (yb (Wp.seq ?_))
   refine yh (yb (Wp.seq ?_))
   refine yh (yb (Wp.seq ?_))
   refine yh (yb (Wp.ret ?_))
   exact yan
theorem zaau{id:Int}{n0:Int}{term:Int}{vote:Int}{l:yz}{snap:(List Int)}{r:(ye × Int)} (h:znd id n0 term vote l snap=some r):yag Pg 25 [.int .i64 id,.int .i64 n0,.int .i64 term,.int .i64 vote,.agg [.int .i64 l.yn,.int .i64 l.yi,sl yc.c l.Entries],sl (ci .u8) snap] [] 0 (.tup [.agg [.int .i64 r.1.Id,.int .i64 r.1.N,.int .i64 r.1.Term,.int .i64 r.1.yac,.int .i64 r.1.yv,.int .i64 r.1.yaf,.int .i64 r.1.yj.yn,.int .i64 r.1.yj.yi,sl yc.c r.1.yj.Entries,.int .i64 r.1.yl,sl (ci .u8) r.1.yy,sl cb r.1.ym,sl (ci .i64) r.1.Next,sl (ci .i64) r.1.yr,.int .i64 r.1.yu,.int .i64 r.1.yae],.int .i64 r.2]) [] 0:=by
  refine yag.intro Tryz.func25 ybka (yad rfl) ?_
  show Wp Pg 73 0 ybaa ⟨yal _ ybab,[],_,_⟩ (ycdc r)
  unfold znd at h
  unfold ybaa
  refine yai [] ?_
  refine Wp.seq (yh (yb (Wp.seq (Wp.reg ?_))))
  replace h:=yx h; obtain ⟨r0,g1,h⟩:=h
  refine yaq 3 (yp (zacu g1) (yf _)) ?_
  refine yak (yf _) (yb (Wp.seq (Wp.seq ?_)))
  refine yh (yb ?_)
  replace h:=ifS h; rcases h with ⟨g2,h⟩ | ⟨g2,h⟩
  ·replace h:=yah h; subst h
   refine yab (Wp.seq ?_)
   refine yh (yb ?_)
   refine yai [.cell 12 8 .frz,.cell 12 10 .frz,.cell 12 11 .frz,.cell 12 12 .frz,.cell 12 13 .frz] (Wp.ret (yax ?_))
   exact yan
  ·refine yaa (Wp.skip (yb (Wp.seq ?_)))
   replace h:=yx h; obtain ⟨r0_1,g3,h⟩:=h
   replace h:=yx h; obtain ⟨r0_2,g4,h⟩:=h
   refine yap [] yao (ybk 2 (yp (zdt g3) (yf _)) (ybk 3 (yp (zcv g4) (yf _)) (yau _))) (yb (Wp.seq (Wp.seq (Wp.reg ?_))))
   replace h:=ifS h; rcases h with ⟨g5,h⟩ | ⟨g5,h⟩
   ·refine yak (yf _) (yb ?_)
    exact yt [.kill [0,1,4,13,15,16,25],.tidy] (zfj h)
   ·replace h:=ifS h; rcases h with ⟨g6,h⟩ | ⟨g6,h⟩
    ·refine yak (yf _) (yb ?_)
     exact yt [.kill [0,1,4,13,15,16,25],.tidy] (zfj h)
    ·replace h:=ifS h; rcases h with ⟨g7,h⟩ | ⟨g7,h⟩
     ·refine yak (yf _) (yb ?_)
      exact yt [.kill [0,1,4,13,15,16,25],.tidy] (zfj h)
     ·replace h:=ifS h; rcases h with ⟨g8,h⟩ | ⟨g8,h⟩
      ·refine yak (yf _) (yb ?_)
       exact yt [.kill [0,1,4,13,15,16,25],.tidy] (zfj h)
      ·replace h:=ifS h; rcases h with ⟨g9,h⟩ | ⟨g9,h⟩
       ·refine yak (yf _) (yb ?_)
        exact yt [.kill [0,1,4,13,15,16,25],.tidy] (zfj h)
       ·replace h:=yx h; obtain ⟨r0_3,g10,h⟩:=h
        refine yaq 23 (yp (zaca g10) (yf _)) ?_
        refine yak (yf _) (yb ?_)
        exact yt [.kill [0,1,4,13,15,16,25],.tidy] (zfj h)
noncomputable abbrev ydsn(r:ybb):Ex→St→Prop:=yay 0 [.cell 8 true 2] (.agg [sl ye.c r.R,sl yg.c r.Net]) [] 0
theorem zpb{w:ybb}{i:Int}{r0:ye}{l:(List yg)}{r:ybb} (h:zhf w i r0 l=some r):yag Pg 26 [.agg [sl ye.c w.R,sl yg.c w.Net],.int .i64 i,.agg [.int .i64 r0.Id,.int .i64 r0.N,.int .i64 r0.Term,.int .i64 r0.yac,.int .i64 r0.yv,.int .i64 r0.yaf,.int .i64 r0.yj.yn,.int .i64 r0.yj.yi,sl yc.c r0.yj.Entries,.int .i64 r0.yl,sl (ci .u8) r0.yy,sl cb r0.ym,sl (ci .i64) r0.Next,sl (ci .i64) r0.yr,.int .i64 r0.yu,.int .i64 r0.yae],sl yg.c l] [] 0 (.agg [sl ye.c r.R,sl yg.c r.Net]) [] 0:=by
  refine yag.intro Tryz.func26 ybkb (yad rfl) ?_
  show Wp Pg 46 0 ybac ⟨yal _ ybad,[],_,_⟩ (ydsn r)
  unfold zhf at h
  unfold ybac
  refine yai [] ?_
  refine Wp.seq (yh (yb (Wp.seq ?_)))
  refine yh (yb (Wp.seq ?_))
  replace h:=ycw h; obtain ⟨g1,h⟩:=h
  refine yh (yb (Wp.seq ?_))
  replace h:=yx h; obtain ⟨e,g2,h⟩:=h
  have:=ycr (n:=16) (id:=4) (ex:=false) (k:=.i64) g2 rfl
  have:=ydw (c:=ye.c) g2
  have:=ygk ye.c w.R i r0
  try simp only [EV,EVt, *] at this
  refine yh (yb (Wp.seq ?_))
  replace h:=ycw h; obtain ⟨g3,h⟩:=h
  refine yh (yb (Wp.seq ?_))
  replace h:=ycw h; obtain ⟨g4,h⟩:=h
  refine yh (yb (Wp.seq (Wp.seq ?_)))
  refine yh (yb ?_)
  replace h:=ifS h; rcases h with ⟨g5,h⟩ | ⟨g5,h⟩
  ·refine yab ?_
   replace h:=yx h; obtain ⟨l_1,g6,h⟩:=h
   replace h:=yah h; subst h
   have:=ycbi (n:=11) (id:=6) (k:=.i64) g6
   try simp only [EV,EVt, *] at this
   have:=ycfd (c:=yg.c) g6
   try simp only [EV,EVt, *] at this
   refine yh (yb (Wp.seq ?_))
   refine yh (yb ?_)
   refine yai [.cell 8 0 .frz,.cell 8 1 .frz] (Wp.ret ?_)
   exact yan
  ·replace h:=yah h; subst h
   refine yaa (Wp.skip (yb (Wp.seq ?_)))
   refine yh (yb ?_)
   refine yai [.cell 8 0 .frz,.cell 8 1 .frz] (Wp.ret ?_)
   exact yan
noncomputable abbrev ycdd(r:(ybb × yg)):Ex→St→Prop:=yay 0 [.cell 6 true 2,.cell 7 true 11] (.tup [.agg [sl ye.c r.1.R,sl yg.c r.1.Net],.agg [.int .i64 r.2.yar,.int .i64 r.2.yct,.int .i64 r.2.From,.int .i64 r.2.To,.int .i64 r.2.Term,.int .i64 r.2.At,.int .i64 r.2.ybd,.int .i64 r.2.yl,.bool r.2.Ok,sl yc.c r.2.Entries,sl (ci .u8) r.2.ybq]]) [] 0
theorem zty{w:ybb}{k:Int}{e:yg}{out_1:(List yg)}{r:(ybb × yg)} (h:zjq w k e out_1=some r):Wp Pg 44 0 (.seq (.reg (some []) ybkc) (.seq (.reg (some [(1,2)]) ybkd) .ret)) ⟨[(0,.bad),(1,.int .i64 k),(2,.bad),(3,.ptr 0 0),(6,.ptr 1 0),(7,.ptr 2 0),(8,.ptr 3 0),(9,.ptr 4 0),(26,.bad)],[],(zadw e w.R w.Net (0:Int) (0:Int) (0:Int) (0:Int) (0:Int) (0:Int) (0:Int) (0:Int) w.R out_1),6⟩ (ycdd r):=by
  unfold zjq at h
  refine Wp.seq ?_
  replace h:=yx h; obtain ⟨l_1,g6,h⟩:=h
  replace h:=ycw h; obtain ⟨g7,h⟩:=h
  replace h:=yah h; subst h
  refine yap [] yao (yau _) (yb (Wp.seq ?_))
  refine yap [] yao (yau _) (yb ?_)
  refine yai [.cell 6 1 .frz] (Wp.ret ?_)
  exact yan
theorem zacg{w:ybb}{k:Int}{keep:Bool}{r:(ybb × yg)} (h:zqc w k keep=some r):yag Pg 27 [.agg [sl ye.c w.R,sl yg.c w.Net],.int .i64 k,.bool keep] [] 0 (.tup [.agg [sl ye.c r.1.R,sl yg.c r.1.Net],.agg [.int .i64 r.2.yar,.int .i64 r.2.yct,.int .i64 r.2.From,.int .i64 r.2.To,.int .i64 r.2.Term,.int .i64 r.2.At,.int .i64 r.2.ybd,.int .i64 r.2.yl,.bool r.2.Ok,sl yc.c r.2.Entries,sl (ci .u8) r.2.ybq]]) [] 0:=by
  refine yag.intro Tryz.func27 ybke (yad rfl) ?_
  show Wp Pg 44 0 ybae ⟨yal _ ybaf,[],_,_⟩ (ycdd r)
  unfold zqc at h
  unfold ybae
  refine yai [] ?_
  refine Wp.seq (yh (yb (Wp.seq ?_)))
  replace h:=yx h; obtain ⟨e,g1,h⟩:=h
  refine yh (yb (Wp.seq ?_))
  refine yh (yb (Wp.seq ?_))
  replace h:=yx h; obtain ⟨l,g2,h⟩:=h
  replace h:=ycw h; obtain ⟨g3,h⟩:=h
  refine yap [] yao (yau _) (yb (Wp.seq (Wp.seq ?_)))
  refine yh (yb ?_)
  replace h:=ifS h; rcases h with ⟨g4,h⟩ | ⟨g4,h⟩
  ·refine yab ?_
   replace h:=ycw h; obtain ⟨g5,h⟩:=h
   refine yh (yb ?_)
   exact yt [.kill [0,2,26],.tidy] (zty h)
  ·refine yaa (Wp.skip (yb ?_))
   exact yt [.kill [0,2,26],.tidy] (zty h)
noncomputable abbrev qf_4(r:Bool):Ex→St→Prop:=yay 0 [.tmp 2] (.bool r) [] 0
noncomputable abbrev zte(l:(List TOp))(rec0:Int→Option Bool)(r:Bool):Prop:=∀ {i:Int},rec0 i=some r→LWp Pg 20 0 yaju ⟨[(0,sl TOp.c l),(2,.bad),(3,.int .i64 i),(6,.bad),(10,.bad),(19,.bad)],[],[],0⟩ (yam 0 (yav Pg 20 0 (.seq (.reg none ybba) .ret) (qf_4 r)))
theorem zxx{l:(List TOp)}{r:Bool} {zla:Int→Option Bool}(zww:zte l zla r){i:Int}(h:zjb l zla i=some r):LWp Pg 20 0 yaju ⟨[(0,sl TOp.c l),(2,.bad),(3,.int .i64 i),(6,.bad),(10,.bad),(19,.bad)],[],[],0⟩ (yam 0 (yav Pg 20 0 (.seq (.reg none ybba) .ret) (qf_4 r))):=by
  unfold zjb at h
  refine LWp.stepC yaju.eq_1 ?_
  refine Wp.seq (Wp.seq (yh (yb ?_)))
  replace h:=ifS h; rcases h with ⟨g2,h⟩ | ⟨g2,h⟩
  ·refine yab (Wp.skip (yb (Wp.seq (Wp.block (Wp.seq ?_)))))
   replace h:=yx h; obtain ⟨e,g3,h⟩:=h
   refine yh (yb ?_)
   replace h:=ifS h; rcases h with ⟨g4,h⟩ | ⟨g4,h⟩
   ·replace h:=yah h; subst h
    refine yab (Wp.seq ?_)
    refine yh (yb (Wp.ret (ybn (yax (ymi (ybn (yax ?_)))))))
    exact yan
   ·refine yaa (Wp.skip (ybh (yb ?_)))
    refine yh (ydk ?_)
    exact ybl [.kill [10,19]] (zww h)
  ·replace h:=yah h; subst h
   refine yaa (Wp.out (ydy (ydi (ycn (yb (Wp.seq ?_))))))
   refine yh (yb (Wp.ret ?_))
   exact yan
theorem zzn{l:(List TOp)}{r:Bool}:∀ (n:Nat),zte l (zel l n) r:=by
  intro n
  induction n with
  | zero=>intro i h; unfold zel at h; cases h
  | succ n ih=>intro i h; unfold zel at h; exact zxx ih h
theorem zabw{l:(List TOp)}{r:Bool} (h:zox l=some r):yag Pg 4 [sl TOp.c l] [] 0 (.bool r) [] 0:=by
  refine yag.intro Tryz.func4 ycco (yad rfl) ?_
  show Wp Pg 20 0 i4_B ⟨yal _ i4_V,[],_,_⟩ (qf_4 r)
  unfold zox at h
  unfold i4_B
  refine yai [] ?_
  refine Wp.seq (yh (yb (Wp.seq (Wp.seq ?_))))
  refine yh (yb ?_)
  replace h:=ifS h; rcases h with ⟨g1,h⟩ | ⟨g1,h⟩
  ·replace h:=yah h; subst h
   refine yab (Wp.seq ?_)
   refine yh (yb (Wp.ret (yax ?_)))
   exact yan
  ·refine yaa (Wp.skip (yb (Wp.seq (Wp.seq ?_))))
   refine yh (yb (Wp.block (Wp.loop ?_)))
   exact ybl [.kill [2,6,10,19]] (zzn _ h)
theorem zwf{r:Bool}(h:ztn=some r):yag Pg 5 [] [] 0 (.bool r) [] 0:=by
  obtain rfl:=yah h
  exact zzl
noncomputable abbrev qf_6(r:ybb):Ex→St→Prop:=yay 0 [.cell 2 true 2] (.agg [sl ye.c r.R,sl yg.c r.Net]) [] 0
noncomputable abbrev ztd(n0:Int)(rec0:Int→(List ye)→Option ybb)(r:ybb):Prop:=∀ {i:Int} {w_00:(List ye)},rec0 i w_00=some r→LWp Pg 26 0 yajz ⟨[(0,.int .i64 n0),(2,.ptr 0 0),(3,.ptr 1 0),(4,.int .i64 i),(5,.bad),(10,.bad)],[],[(0,.box [.nil,.nil]),(1,.box [.own 16 2 0 w_00.length false,.nil]),(2,.arr 16 (List.map ye.c w_00) 0)],3⟩ (yam 0 (yav Pg 26 0 (.seq (.reg none ybch) .ret) (qf_6 r)))
theorem zxw{n0:Int}{r:ybb} {zkz:Int→(List ye)→Option ybb}(zwv:ztd n0 zkz r){i:Int}{w_00:(List ye)}(h:zja n0 zkz i w_00=some r):LWp Pg 26 0 yajz ⟨[(0,.int .i64 n0),(2,.ptr 0 0),(3,.ptr 1 0),(4,.int .i64 i),(5,.bad),(10,.bad)],[],[(0,.box [.nil,.nil]),(1,.box [.own 16 2 0 w_00.length false,.nil]),(2,.arr 16 (List.map ye.c w_00) 0)],3⟩ (yam 0 (yav Pg 26 0 (.seq (.reg none ybch) .ret) (qf_6 r))):=by
  unfold zja at h
  refine LWp.stepC yajz.eq_1 ?_
  refine Wp.seq (Wp.seq (yh (yb ?_)))
  replace h:=ifS h; rcases h with ⟨g1,h⟩ | ⟨g1,h⟩
  ·refine yab (Wp.skip (yb (Wp.seq (Wp.block (Wp.seq (Wp.reg ?_))))))
   replace h:=yx h; obtain ⟨r0,g2,h⟩:=h
   refine yaq 3 (yp (zzq g2) (yf _)) ?_
   refine yak (yf _) (yb ?_)
   replace h:=ycw h; obtain ⟨g3,h⟩:=h
   refine yh (ybh (yb ?_))
   refine yh (ydk ?_)
   exact ybl [.kill [5,10],.tidy] (zwv h)
  ·replace h:=yah h; subst h
   refine yaa (Wp.out (ydy (ydi (ycn (yb (Wp.seq ?_))))))
   refine yh (yb ?_)
   refine yai [.cell 2 0 .frz,.cell 2 1 .frz] (Wp.ret ?_)
   exact yan
theorem zzm{n0:Int}{r:ybb}:∀ (n:Nat),ztd n0 (zek n0 n) r:=by
  intro n
  induction n with
  | zero=>intro i w_00 h; unfold zek at h; cases h
  | succ n ih=>intro i w_00 h; unfold zek at h; exact zxw ih h
theorem zabv{n0:Int}{r:ybb} (h:zow n0=some r):yag Pg 6 [.int .i64 n0] [] 0 (.agg [sl ye.c r.R,sl yg.c r.Net]) [] 0:=by
  refine yag.intro Tryz.func6 yccp (yad rfl) ?_
  show Wp Pg 26 0 i6_B ⟨yal _ i6_V,[],_,_⟩ (qf_6 r)
  unfold zow at h
  unfold i6_B
  refine yai [] ?_
  refine Wp.seq (yh (yb (Wp.seq ?_)))
  refine yh (yb (Wp.seq (Wp.seq ?_)))
  refine yh (yb (Wp.block (Wp.loop ?_)))
  exact ybl [.kill [5,10],.cell 3 0 (.virt 16),.tidy] (zzm _ h)
noncomputable abbrev qf_7(r:Int):Ex→St→Prop:=yay 0 [.tmp 2] (.int .i64 r) [] 0
theorem zacf{n0:Int}{r:Int} (h:zqb n0=some r):yag Pg 7 [.int .u8 n0] [] 0 (.int .i64 r) [] 0:=by
  refine yag.intro Tryz.func7 yccq (yad rfl) ?_
  show Wp Pg 7 0 i7_B ⟨yal _ i7_V,[],_,_⟩ (qf_7 r)
  unfold zqb at h
  unfold i7_B
  refine yai [] ?_
  replace h:=yah h; subst h
  refine Wp.seq (yh (yb (Wp.seq ?_)))
  refine yh (yb (Wp.ret ?_))
  exact yan
noncomputable abbrev qf_8(r:Bool):Ex→St→Prop:=yay 0 [.tmp 4] (.bool r) [] 0
theorem ztx{w:ybb}{e_1:yg}{v97:Bool}{r:Bool} (h:zmt w e_1 v97=some r):Wp Pg 242 0 (.cond (.t 97) (.seq (.reg none yapn) .ret) .skip) ⟨[(0,.bad),(1,.bad),(2,.ptr 0 0),(3,.bad),(4,.bad),(5,.bad),(6,.bad),(7,.bad),(8,.bad),(9,.bad),(10,.bad),(11,.ptr 1 0),(12,.bad),(13,.bad),(14,.bad),(15,.bad),(16,.bad),(17,.bad),(18,.bad),(19,.bad),(20,.bad),(21,.bad),(22,.bad),(23,.bad),(24,.bad),(25,.bad),(26,.bad),(27,.bad),(28,.bad),(29,.bad),(30,.bad),(31,.bad),(32,.bad),(45,.bad),(46,.bad),(70,.bad),(76,.bad),(97,.bool v97),(130,.bad),(168,.bad),(200,.bad)],[],(hs5 e_1 w.R w.Net),2⟩ (yav Pg 242 0 (.seq (.reg (some [(1,12),(3,12),(6,12),(7,12),(8,12)]) yapo) (.seq (.reg (some [(1,12),(3,12),(6,12),(7,12),(8,12)]) yapp) (.seq (.reg none yapq) .ret))) (yam 0 (yav Pg 242 0 (.seq (.reg none yapr) .ret) (qf_8 r)))):=by
  unfold zmt at h
  replace h:=ifS h; rcases h with ⟨g15,h⟩ | ⟨g15,h⟩
  ·replace h:=yah h; subst h
   refine yab (Wp.seq ?_)
   refine yh (yb (Wp.ret (yax (ybn (yax ?_)))))
   exact yan
  ·refine yaa (Wp.skip (yb (Wp.seq ?_)))
   replace h:=yx h; obtain ⟨e_2,g16,h⟩:=h
   replace h:=yx h; obtain ⟨r0_6,g17,h⟩:=h
   refine yap [] yao (ybk 8 (yp (zvh g17) (yf _)) (yau _)) (yb (Wp.seq ?_))
   replace h:=yx h; obtain ⟨r0_7,g18,h⟩:=h
   refine yap [] yao (ybk 8 (yp (zaat g18) (yf _)) (yau _)) (yb (Wp.seq (Wp.reg ?_)))
   replace h:=yx h; obtain ⟨r0_8,g19,h⟩:=h
   refine yaq 3 (yp (zog g19) (yf _)) ?_
   replace h:=ifS h; rcases h with ⟨g20,h⟩ | ⟨g20,h⟩
   ·replace h:=yx h; obtain ⟨r0_9,g21,h⟩:=h
    replace h:=yah h; subst h
    refine yaq 4 (yp (zqk g21) (yf _)) ?_
    refine yak (yf _) (yb (Wp.ret (ybn (yax ?_))))
    exact yan
   ·replace h:=yah h; subst h
    refine yak (yf _) (yb (Wp.ret (ybn (yax ?_))))
    exact yan
theorem ztw{w:ybb}{o:TOp}{e:ye}{v70:Bool}{r:Bool} (h:zhg w o e v70=some r):Wp Pg 242 0 (.cond (.t 70) (.seq (.seq (.reg none ybns) (.cond (.t 76) (.seq (.reg none ybnt) .ret) .skip)) (.seq (.reg (some [(1,7),(1,10),(3,10),(5,10),(7,10),(9,10)]) ybnu) (.seq (.seq (.reg none ybnv) (.cond (.t 97) (.seq (.reg none yapn) .ret) .skip)) (.seq (.reg (some [(1,12),(3,12),(6,12),(7,12),(8,12)]) yapo) (.seq (.reg (some [(1,12),(3,12),(6,12),(7,12),(8,12)]) yapp) (.seq (.reg none yapq) .ret)))))) (.seq (.reg none ybnw) (.cond (.t 130) (.seq (.reg none ybnx) (.seq (.reg none ybny) (.seq (.reg none ybnz) .ret))) (.seq (.reg none yboa) (.cond (.t 168) (.seq (.reg (some [(1,4)]) ybob) (.seq (.reg none yboc) (.seq (.reg none ybod) (.seq (.reg none yboe) .ret)))) (.seq (.reg none ybof) (.cond (.t 200) (.seq (.reg none ybog) (.seq (.reg none yboh) (.seq (.reg none yboi) .ret))) .skip))))))) ⟨[(0,.bad),(1,.bad),(2,.ptr 0 0),(3,.ptr 1 0),(4,.bad),(5,.bad),(6,.ptr 2 0),(7,.bad),(8,.bad),(9,.bad),(10,.bad),(11,.bad),(12,.bad),(13,.bad),(14,.bad),(15,.bad),(16,.bad),(17,.bad),(18,.bad),(19,.bad),(20,.bad),(21,.bad),(22,.bad),(23,.bad),(24,.bad),(25,.bad),(26,.bad),(27,.bad),(28,.bad),(29,.bad),(30,.bad),(31,.bad),(32,.bad),(45,.int .i64 o.yar),(46,.bad),(70,.bool v70),(76,.bad),(97,.bad),(130,.bad),(168,.bad),(200,.bad)],[],(hs3 o e w.R w.Net),3⟩ (yam 0 (yav Pg 242 0 (.seq (.reg none yapr) .ret) (qf_8 r))):=by
  unfold zhg at h
  replace h:=ifS h; rcases h with ⟨g10,h⟩ | ⟨g10,h⟩
  ·refine yab (Wp.seq (Wp.seq ?_))
   refine yh (yb ?_)
   replace h:=ifS h; rcases h with ⟨g11,h⟩ | ⟨g11,h⟩
   ·replace h:=yah h; subst h
    refine yab (Wp.seq ?_)
    refine yh (yb (Wp.ret (yax (ybn (yax ?_)))))
    exact yan
   ·refine yaa (Wp.skip (yb (Wp.seq ?_)))
    replace h:=yx h; obtain ⟨r0_5,g12,h⟩:=h
    replace h:=yx h; obtain ⟨e_1,g13,h⟩:=h
    refine yap [] yao (ybk 7 (yp (zlm g12) (yf _)) (yau _)) (yb (Wp.seq (Wp.seq ?_)))
    replace h:=ifS h; rcases h with ⟨g14,h⟩ | ⟨g14,h⟩
    ·refine yh (yb ?_)
     exact yt [.kill [3,6,45,70,76],.tidy] (ztx h)
    ·refine yh (yb ?_)
     exact yt [.kill [3,6,45,70,76],.tidy] (ztx h)
  ·refine yaa (Wp.seq ?_)
   refine yh (yb ?_)
   replace h:=ifS h; rcases h with ⟨g22,h⟩ | ⟨g22,h⟩
   ·refine yab (Wp.seq (Wp.reg ?_))
    replace h:=yx h; obtain ⟨r0_10,g23,h⟩:=h
    refine yaq 4 (yp (zvg g23) (yf _)) ?_
    refine yak (yf _) (yb (Wp.seq (Wp.reg ?_)))
    replace h:=yx h; obtain ⟨r0_11,g24,h⟩:=h
    refine yaq 4 (yp (zaas g24) (yf _)) ?_
    refine yak (yf _) (yb (Wp.seq (Wp.reg ?_)))
    replace h:=ifS h; rcases h with ⟨g25,h⟩ | ⟨g25,h⟩
    ·replace h:=ifS h; rcases h with ⟨g26,h⟩ | ⟨g26,h⟩
     ·replace h:=yx h; obtain ⟨r0_12,g27,h⟩:=h
      refine yaq 12 (yp (zog g27) (yf _)) ?_
      replace h:=ifS h; rcases h with ⟨g28,h⟩ | ⟨g28,h⟩
      ·replace h:=yx h; obtain ⟨r0_13,g29,h⟩:=h
       replace h:=yah h; subst h
       refine yaq 5 (yp (zqk g29) (yf _)) ?_
       refine yak (yf _) (yb (Wp.ret (ybn (yax ?_))))
       exact yan
      ·replace h:=yah h; subst h
       refine yak (yf _) (yb (Wp.ret (ybn (yax ?_))))
       exact yan
     ·replace h:=yah h; subst h
      refine yak (yf _) (yb (Wp.ret (ybn (yax ?_))))
      exact yan
    ·replace h:=yah h; subst h
     refine yak (yf _) (yb (Wp.ret (ybn (yax ?_))))
     exact yan
   ·refine yaa (Wp.seq ?_)
    refine yh (yb ?_)
    replace h:=ifS h; rcases h with ⟨g30,h⟩ | ⟨g30,h⟩
    ·refine yab (Wp.seq ?_)
     replace h:=yx h; obtain ⟨r0_14,g31,h⟩:=h
     refine yap [] yao (ybk 4 (yp (zlm g31) (yf _)) (yau _)) (yb (Wp.seq (Wp.reg ?_)))
     replace h:=yx h; obtain ⟨r0_15,g32,h⟩:=h
     refine yaq 5 (yp (zvf g32) (yf _)) ?_
     refine yak (yf _) (yb (Wp.seq (Wp.reg ?_)))
     replace h:=yx h; obtain ⟨r0_16,g33,h⟩:=h
     refine yaq 5 (yp (zaar g33) (yf _)) ?_
     refine yak (yf _) (yb (Wp.seq (Wp.reg ?_)))
     replace h:=ifS h; rcases h with ⟨g34,h⟩ | ⟨g34,h⟩
     ·replace h:=yx h; obtain ⟨r0_17,g35,h⟩:=h
      replace h:=yah h; subst h
      refine yaq 7 (yp (zog g35) (yf _)) ?_
      refine yak (yf _) (yb (Wp.ret (ybn (yax ?_))))
      exact yan
     ·replace h:=yah h; subst h
      refine yak (yf _) (yb (Wp.ret (ybn (yax ?_))))
      exact yan
    ·refine yaa (Wp.seq ?_)
     refine yh (yb ?_)
     replace h:=ifS h; rcases h with ⟨g36,h⟩ | ⟨g36,h⟩
     ·refine yab (Wp.seq (Wp.reg ?_))
      replace h:=yx h; obtain ⟨r0_18,g37,h⟩:=h
      refine yaq 13 (yp (zvi g37) (yf _)) ?_
      refine yak (yf _) (yb (Wp.seq (Wp.reg ?_)))
      replace h:=yx h; obtain ⟨r0_19,g38,h⟩:=h
      refine yaq 13 (yp (zaau g38) (yf _)) ?_
      refine yak (yf _) (yb (Wp.seq (Wp.reg ?_)))
      replace h:=ifS h; rcases h with ⟨g39,h⟩ | ⟨g39,h⟩
      ·replace h:=yx h; obtain ⟨r0_20,g40,h⟩:=h
       replace h:=yah h; subst h
       refine yaq 7 (yp (zog g40) (yf _)) ?_
       refine yak (yf _) (yb (Wp.ret (ybn (yax ?_))))
       exact yan
      ·replace h:=yah h; subst h
       refine yak (yf _) (yb (Wp.ret (ybn (yax ?_))))
       exact yan
     ·replace h:=yah h; subst h
      refine yaa (Wp.skip (ybh (yb (Wp.seq ?_))))
      refine yh (yb (Wp.ret ?_))
      exact yan
theorem zace{w:ybb}{o:TOp}{r:Bool} (h:znu w o=some r):yag Pg 8 [.agg [sl ye.c w.R,sl yg.c w.Net],.agg [.int .i64 o.yar,.int .i64 o.Who,.int .i64 o.N,sl (ci .u8) o.ybq]] [] 0 (.bool r) [] 0:=by
  refine yag.intro Tryz.func8 yccv (yad rfl) ?_
  show Wp Pg 242 0 i8_B ⟨yal _ i8_V,[],_,_⟩ (qf_8 r)
  unfold znu at h
  unfold i8_B
  refine yai [] ?_
  refine Wp.seq (yh (yb (Wp.seq (Wp.reg ?_))))
  replace h:=yx h; obtain ⟨r0,g1,h⟩:=h
  refine yaq 6 (yp (zlm g1) (yf _)) ?_
  refine yak (yf _) (yb (Wp.seq ?_))
  replace h:=yx h; obtain ⟨e,g2,h⟩:=h
  refine yh (yb (Wp.seq (Wp.seq ?_)))
  refine yh (yb (Wp.block (Wp.seq ?_)))
  refine yh (yb ?_)
  replace h:=ifS h; rcases h with ⟨g3,h⟩ | ⟨g3,h⟩
  ·refine yab (Wp.seq (Wp.reg ?_))
   replace h:=yx h; obtain ⟨r0_1,g4,h⟩:=h
   refine yaq 4 (yp (zyl g4) (yf _)) ?_
   refine yak (yf _) (yb (Wp.seq (Wp.reg ?_)))
   replace h:=yx h; obtain ⟨r0_2,g5,h⟩:=h
   refine yaq 4 (yp (zacl g5) (yf _)) ?_
   refine yak (yf _) (yb (Wp.seq (Wp.reg ?_)))
   replace h:=yx h; obtain ⟨r0_3,g6,h⟩:=h
   refine yaq 3 (yp (zog g6) (yf _)) ?_
   replace h:=ifS h; rcases h with ⟨g7,h⟩ | ⟨g7,h⟩
   ·replace h:=yx h; obtain ⟨r0_4,g8,h⟩:=h
    replace h:=yah h; subst h
    refine yaq 4 (yp (zqk g8) (yf _)) ?_
    refine yak (yf _) (yb (Wp.ret (ybn (yax ?_))))
    exact yan
   ·replace h:=yah h; subst h
    refine yak (yf _) (yb (Wp.ret (ybn (yax ?_))))
    exact yan
  ·refine yaa (Wp.seq (Wp.seq ?_))
   refine yh (yb ?_)
   replace h:=ifS h; rcases h with ⟨g9,h⟩ | ⟨g9,h⟩
   ·refine yab (Wp.skip (yb ?_))
    exact yt [.kill [0,1,4,5,7,8,9,10,11,12,13,14,15,16,17,18,19,20,21,22,23,24,25,26,27,28,29,30,31,32,46,76,97,130,168,200],.tidy] (ztw h)
   ·refine yaa ?_
    refine yh (yb ?_)
    exact yt [.kill [0,1,4,5,7,8,9,10,11,12,13,14,15,16,17,18,19,20,21,22,23,24,25,26,27,28,29,30,31,32,46,76,97,130,168,200],.tidy] (ztw h)
noncomputable abbrev qf_9(r:ybb):Ex→St→Prop:=yay 0 [.cell 4 true 2] (.agg [sl ye.c r.R,sl yg.c r.Net]) [] 0
theorem zsa{r0_4:(ybb × yg)}{v87:Bool}{r:ybb} (h:zkc r0_4 v87=some r):Wp Pg 177 0 (.cond (.t 87) (.seq (.reg none yaps) .ret) .skip) ⟨[(0,.bad),(1,.bad),(2,.bad),(3,.bad),(4,.ptr 0 0),(5,.bad),(6,.bad),(7,.bad),(8,.bad),(9,.ptr 1 0),(10,.ptr 2 0),(11,.bad),(12,.bad),(13,.bad),(15,.bad),(16,.bad),(17,.bad),(18,.bad),(19,.bad),(20,.bad),(21,.bad),(34,.bad),(35,.bad),(49,.bad),(56,.bad),(87,.bool v87),(108,.bad),(120,.bad),(127,.bad),(145,.bad),(151,.bad),(170,.bad)],[],(zadv r0_4.2 r0_4.1.R r0_4.1.Net),3⟩ (yav Pg 177 0 (.seq (.reg (some [(1,12),(3,12),(6,12),(7,12),(8,12)]) yapt) (.seq (.reg none yapu) .ret)) (yam 0 (yav Pg 177 0 (.seq (.reg none yapv) .ret) (qf_9 r)))):=by
  unfold zkc at h
  replace h:=ifS h; rcases h with ⟨g14,h⟩ | ⟨g14,h⟩
  ·replace h:=yah h; subst h
   refine yab (Wp.seq ?_)
   refine yh (yb (Wp.ret (yax (ybn (yax ?_)))))
   exact yan
  ·refine yaa (Wp.skip (yb (Wp.seq ?_)))
   replace h:=yx h; obtain ⟨e_1,g15,h⟩:=h
   replace h:=yx h; obtain ⟨r0_5,g16,h⟩:=h
   refine yap [] yao (ybk 8 (yp (zvh g16) (yf _)) (yau _)) (yb (Wp.seq (Wp.reg ?_)))
   replace h:=yx h; obtain ⟨r0_6,g17,h⟩:=h
   replace h:=yah h; subst h
   refine yaq 7 (yp (zpb g17) (yf _)) ?_
   refine yak (yf _) (yb (Wp.ret (ybn (yax ?_))))
   exact yan
theorem zrz{w:ybb}{o:TOp}{r0:Int}{e:ye}{v49:Bool}{r:ybb} (h:zey w o r0 e v49=some r):Wp Pg 177 0 (.cond (.t 49) (.seq (.seq (.reg none ybph) (.cond (.t 56) (.seq (.reg none ybpi) .ret) .skip)) (.seq (.reg (some [(0,6),(6,8),(0,14),(2,14),(4,14),(6,14),(8,14),(10,14),(0,15),(2,15),(4,15),(6,15),(8,15),(10,15),(14,15)]) ybpj) (.seq (.seq (.reg none ybpk) (.cond (.t 87) (.seq (.reg none yaps) .ret) .skip)) (.seq (.reg (some [(1,12),(3,12),(6,12),(7,12),(8,12)]) yapt) (.seq (.reg none yapu) .ret))))) (.seq (.reg none ybpl) (.cond (.t 108) (.seq (.reg none ybpm) (.seq (.seq (.reg none ybpn) (.cond (.t 120) (.seq (.reg none ybpo) .ret) .skip)) (.seq (.reg none ybpp) .ret))) (.seq (.reg none ybpq) (.cond (.t 127) (.seq (.reg (some [(1,4)]) ybpr) (.seq (.reg none ybps) (.seq (.seq (.reg none ybpt) (.cond (.t 145) (.seq (.reg none ybpu) .ret) .skip)) (.seq (.reg none ybpv) .ret)))) (.seq (.reg none ybpw) (.cond (.t 151) (.seq (.reg none ybpx) (.seq (.seq (.reg none ybpy) (.cond (.t 170) (.seq (.reg none ybpz) .ret) .skip)) (.seq (.reg none ybqa) .ret))) .skip))))))) ⟨[(0,.bad),(1,.bad),(2,.ptr 0 0),(3,.ptr 1 0),(4,.ptr 2 0),(5,.int .i64 r0),(6,.ptr 3 0),(7,.bad),(8,.bad),(9,.bad),(10,.bad),(11,.bad),(12,.bad),(13,.bad),(15,.bad),(16,.bad),(17,.bad),(18,.bad),(19,.bad),(20,.bad),(21,.bad),(34,.int .i64 o.yar),(35,.bad),(49,.bool v49),(56,.bad),(87,.bad),(108,.bad),(120,.bad),(127,.bad),(145,.bad),(151,.bad),(170,.bad)],[],(zadu o e w.R w.Net),4⟩ (yam 0 (yav Pg 177 0 (.seq (.reg none yapv) .ret) (qf_9 r))):=by
  unfold zey at h
  replace h:=ifS h; rcases h with ⟨g8,h⟩ | ⟨g8,h⟩
  ·refine yab (Wp.seq (Wp.seq ?_))
   refine yh (yb ?_)
   replace h:=ifS h; rcases h with ⟨g9,h⟩ | ⟨g9,h⟩
   ·replace h:=yah h; subst h
    refine yab (Wp.seq ?_)
    refine yh (yb (Wp.ret (yax (ybn (yax ?_)))))
    exact yan
   ·refine yaa (Wp.skip (yb (Wp.seq ?_)))
    replace h:=yx h; obtain ⟨r0_3,g10,h⟩:=h
    replace h:=yx h; obtain ⟨r0_4,g11,h⟩:=h
    refine yap [] yao (ybk 6 (yp (zlm g10) (yf _)) (ybk 10 (yp (zacg g11) (yf _)) (yau _))) (yb (Wp.seq (Wp.seq ?_)))
    replace h:=ifS h; rcases h with ⟨g12,h⟩ | ⟨g12,h⟩
    ·refine yh (yb ?_)
     exact yt [.kill [2,3,5,6,34,49,56],.tidy] (zsa h)
    ·replace h:=ifS h; rcases h with ⟨g13,h⟩ | ⟨g13,h⟩
     ·refine yh (yb ?_)
      exact yt [.kill [2,3,5,6,34,49,56],.tidy] (zsa h)
     ·refine yh (yb ?_)
      exact yt [.kill [2,3,5,6,34,49,56],.tidy] (zsa h)
  ·refine yaa (Wp.seq ?_)
   refine yh (yb ?_)
   replace h:=ifS h; rcases h with ⟨g18,h⟩ | ⟨g18,h⟩
   ·refine yab (Wp.seq (Wp.reg ?_))
    replace h:=yx h; obtain ⟨r0_7,g19,h⟩:=h
    refine yaq 4 (yp (zvg g19) (yf _)) ?_
    refine yak (yf _) (yb (Wp.seq (Wp.seq ?_)))
    refine yh (yb ?_)
    replace h:=ifS h; rcases h with ⟨g20,h⟩ | ⟨g20,h⟩
    ·replace h:=yah h; subst h
     refine yab (Wp.seq ?_)
     refine yh (yb (Wp.ret (yax (ybn (yax ?_)))))
     exact yan
    ·refine yaa (Wp.skip (yb (Wp.seq (Wp.reg ?_))))
     replace h:=yx h; obtain ⟨r0_8,g21,h⟩:=h
     replace h:=yah h; subst h
     refine yaq 5 (yp (zpb g21) (yf _)) ?_
     refine yak (yf _) (yb (Wp.ret (ybn (yax ?_))))
     exact yan
   ·refine yaa (Wp.seq ?_)
    refine yh (yb ?_)
    replace h:=ifS h; rcases h with ⟨g22,h⟩ | ⟨g22,h⟩
    ·refine yab (Wp.seq ?_)
     replace h:=yx h; obtain ⟨r0_9,g23,h⟩:=h
     refine yap [] yao (ybk 4 (yp (zlm g23) (yf _)) (yau _)) (yb (Wp.seq (Wp.reg ?_)))
     replace h:=yx h; obtain ⟨r0_10,g24,h⟩:=h
     refine yaq 6 (yp (zvf g24) (yf _)) ?_
     refine yak (yf _) (yb (Wp.seq (Wp.seq ?_)))
     refine yh (yb ?_)
     replace h:=ifS h; rcases h with ⟨g25,h⟩ | ⟨g25,h⟩
     ·replace h:=yah h; subst h
      refine yab (Wp.seq ?_)
      refine yh (yb (Wp.ret (yax (ybn (yax ?_)))))
      exact yan
     ·refine yaa (Wp.skip (yb (Wp.seq (Wp.reg ?_))))
      replace h:=yx h; obtain ⟨r0_11,g26,h⟩:=h
      replace h:=yah h; subst h
      refine yaq 4 (yp (zpb g26) (yf _)) ?_
      refine yak (yf _) (yb (Wp.ret (ybn (yax ?_))))
      exact yan
    ·refine yaa (Wp.seq ?_)
     refine yh (yb ?_)
     replace h:=ifS h; rcases h with ⟨g27,h⟩ | ⟨g27,h⟩
     ·refine yab (Wp.seq (Wp.reg ?_))
      replace h:=yx h; obtain ⟨r0_12,g28,h⟩:=h
      refine yaq 13 (yp (zvi g28) (yf _)) ?_
      refine yak (yf _) (yb (Wp.seq (Wp.seq ?_)))
      refine yh (yb ?_)
      replace h:=ifS h; rcases h with ⟨g29,h⟩ | ⟨g29,h⟩
      ·replace h:=yah h; subst h
       refine yab (Wp.seq ?_)
       refine yh (yb (Wp.ret (yax (ybn (yax ?_)))))
       exact yan
      ·refine yaa (Wp.skip (yb (Wp.seq (Wp.reg ?_))))
       replace h:=yx h; obtain ⟨r0_13,g30,h⟩:=h
       replace h:=yah h; subst h
       refine yaq 4 (yp (zpb g30) (yf _)) ?_
       refine yak (yf _) (yb (Wp.ret (ybn (yax ?_))))
       exact yan
     ·replace h:=yah h; subst h
      refine yaa (Wp.skip (ybh (yb (Wp.seq ?_))))
      refine yh (yb (Wp.ret ?_))
      exact yan
theorem zacw{w:ybb}{o:TOp}{r:ybb} (h:zqo w o=some r):yag Pg 9 [.agg [sl ye.c w.R,sl yg.c w.Net],.agg [.int .i64 o.yar,.int .i64 o.Who,.int .i64 o.N,sl (ci .u8) o.ybq]] [] 0 (.agg [sl ye.c r.R,sl yg.c r.Net]) [] 0:=by
  refine yag.intro Tryz.func9 yccw (yad rfl) ?_
  show Wp Pg 177 0 i9_B ⟨yal _ i9_V,[],_,_⟩ (qf_9 r)
  unfold zqo at h
  unfold i9_B
  refine yai [] ?_
  refine Wp.seq (yh (yb (Wp.seq (Wp.reg ?_))))
  replace h:=yx h; obtain ⟨r0,g1,h⟩:=h
  refine yaq 6 (yp (zlm g1) (yf _)) ?_
  refine yak (yf _) (yb (Wp.seq ?_))
  replace h:=yx h; obtain ⟨e,g2,h⟩:=h
  refine yh (yb (Wp.seq (Wp.seq ?_)))
  refine yh (yb (Wp.block (Wp.seq ?_)))
  refine yh (yb ?_)
  replace h:=ifS h; rcases h with ⟨g3,h⟩ | ⟨g3,h⟩
  ·refine yab (Wp.seq (Wp.reg ?_))
   replace h:=yx h; obtain ⟨r0_1,g4,h⟩:=h
   refine yaq 4 (yp (zyl g4) (yf _)) ?_
   refine yak (yf _) (yb (Wp.seq (Wp.reg ?_)))
   replace h:=yx h; obtain ⟨r0_2,g5,h⟩:=h
   replace h:=yah h; subst h
   refine yaq 5 (yp (zpb g5) (yf _)) ?_
   refine yak (yf _) (yb (Wp.ret (ybn (yax ?_))))
   exact yan
  ·refine yaa (Wp.seq (Wp.seq ?_))
   refine yh (yb ?_)
   replace h:=ifS h; rcases h with ⟨g6,h⟩ | ⟨g6,h⟩
   ·refine yab (Wp.skip (yb ?_))
    exact yt [.kill [0,1,7,8,9,10,11,12,13,15,16,17,18,19,20,21,35,56,87,108,120,127,145,151,170],.tidy] (zrz h)
   ·refine yaa (Wp.seq ?_)
    refine yh (yb ?_)
    replace h:=ifS h; rcases h with ⟨g7,h⟩ | ⟨g7,h⟩
    ·refine yab (Wp.skip (yb ?_))
     exact yt [.kill [0,1,7,8,9,10,11,12,13,15,16,17,18,19,20,21,35,56,87,108,120,127,145,151,170],.tidy] (zrz h)
    ·refine yaa ?_
     refine yh (yb ?_)
     exact yt [.kill [0,1,7,8,9,10,11,12,13,15,16,17,18,19,20,21,35,56,87,108,120,127,145,151,170],.tidy] (zrz h)
noncomputable abbrev qf_3(r:Bool):Ex→St→Prop:=yay 0 [.tmp 4] (.bool r) [] 0
noncomputable abbrev zrs(l:(List TOp))(rec0:Int→(List ye)→(List yg)→Option Bool)(r:Bool):Prop:=∀ {i:Int} {w_00:(List ye)} {w_10:(List yg)},rec0 i w_00 w_10=some r→LWp Pg 34 0 yajt ⟨[(0,.bad),(1,sl TOp.c l),(4,.bad),(5,.ptr 0 0),(6,.int .i64 i),(9,.bad),(17,.bad),(26,.bad)],[],[(0,.box [sl ye.c w_00,sl yg.c w_10])],1⟩ (yam 0 (yav Pg 34 0 (.seq (.reg none yaec) .ret) (qf_3 r)))
theorem zxg {r:Bool} (h:zpm=some r):Wp Pg 34 0 (.seq (.reg none yaec) .ret) ⟨[(0,.bad),(1,.bad),(4,.bad),(5,.bad),(6,.bad),(9,.bad),(17,.bad),(26,.bad)],[],[],0⟩ (qf_3 r):=by
  unfold zpm at h
  refine Wp.seq (Wp.reg ?_)
  replace h:=yx h; obtain ⟨r0_6,g11,h⟩:=h
  replace h:=yah h; subst h
  refine yaq 1 (yp (zwf g11) (yf _)) ?_
  refine yak (yf _) (yb (Wp.ret ?_))
  exact yan
theorem zvu{l:(List TOp)}{r:Bool} {zin:Int→(List ye)→(List yg)→Option Bool}(zvb:zrs l zin r){i:Int}{w_00:(List ye)}{w_10:(List yg)}(h:zgl l zin i w_00 w_10=some r):LWp Pg 34 0 yajt ⟨[(0,.bad),(1,sl TOp.c l),(4,.bad),(5,.ptr 0 0),(6,.int .i64 i),(9,.bad),(17,.bad),(26,.bad)],[],[(0,.box [sl ye.c w_00,sl yg.c w_10])],1⟩ (yam 0 (yav Pg 34 0 (.seq (.reg none yaec) .ret) (qf_3 r))):=by
  unfold zgl at h
  refine LWp.stepC yajt.eq_1 ?_
  refine Wp.seq (Wp.seq (yh (yb ?_)))
  replace h:=ifS h; rcases h with ⟨g6,h⟩ | ⟨g6,h⟩
  ·refine yab (Wp.skip (yb (Wp.seq (Wp.block (Wp.seq (Wp.seq ?_))))))
   replace h:=yx h; obtain ⟨e,g7,h⟩:=h
   replace h:=yx h; obtain ⟨r0_4,g8,h⟩:=h
   refine yap [] yao (ybk 5 (yp (zace g8) (yf _)) (yau _)) (yb ?_)
   replace h:=ifS h; rcases h with ⟨g9,h⟩ | ⟨g9,h⟩
   ·refine yaa (Wp.skip (yb ?_))
    replace h:=yx h; obtain ⟨r0_5,g10,h⟩:=h
    refine yap [] yao (ybk 5 (yp (zacw g10) (yf _)) (yau _)) (ybh (yb ?_))
    refine yh (ydk ?_)
    exact ybl [.kill [17,26],.tidy] (zvb h)
   ·replace h:=yah h; subst h
    refine yab (Wp.seq ?_)
    refine yh (yb (Wp.ret (yax (ybn (yax (ymi (ybn (yax ?_))))))))
    exact yan
  ·refine yaa (Wp.out (ydy (ydi (ycn (yb ?_)))))
   exact yt [.kill [1,5,6,17],.tidy] (zxg h)
theorem zxh{l:(List TOp)}{r:Bool}:∀ (n:Nat),zrs l (zcp l n) r:=by
  intro n
  induction n with
  | zero=>intro i w_00 w_10 h; unfold zcp at h; cases h
  | succ n ih=>intro i w_00 w_10 h; unfold zcp at h; exact zvu ih h
theorem w_m_law15_RaftDoes{n0:Int}{l:(List TOp)}{r:Bool} (h:zol n0 l=some r):yag Pg 3 [.int .u8 n0,sl TOp.c l] [] 0 (.bool r) [] 0:=by
  refine yag.intro Tryz.func3 yccl (yad rfl) ?_
  show Wp Pg 34 0 i3_B ⟨yal _ i3_V,[],_,_⟩ (qf_3 r)
  unfold zol at h
  unfold i3_B
  refine yai [] ?_
  refine Wp.seq (yh (yb (Wp.seq (Wp.seq (Wp.reg ?_)))))
  replace h:=yx h; obtain ⟨r0,g1,h⟩:=h
  refine yaq 2 (yp (zabw g1) (yf _)) ?_
  refine yak (yf _) (yb ?_)
  replace h:=ifS h; rcases h with ⟨g2,h⟩ | ⟨g2,h⟩
  ·refine yaa (Wp.skip (yb (Wp.seq (Wp.reg ?_))))
   replace h:=yx h; obtain ⟨r0_2,g4,h⟩:=h
   refine yaq 2 (yp (zacf g4) (yf _)) ?_
   replace h:=yx h; obtain ⟨r0_3,g5,h⟩:=h
   refine yaq 1 (yp (zabv g5) (yf _)) ?_
   refine yak (yf _) (yb (Wp.seq (Wp.seq ?_)))
   refine yh (yb (Wp.block (Wp.loop ?_)))
   exact ybl [.kill [0,4,9,17,26]] (zxh _ h)
  ·refine yab (Wp.seq (Wp.reg ?_))
   replace h:=yx h; obtain ⟨r0_1,g3,h⟩:=h
   replace h:=yah h; subst h
   refine yaq 1 (yp (zwf g3) (yf _)) ?_
   refine yak (yf _) (yb (Wp.ret (yax ?_)))
   exact yan
end Go.Proofs.YtgoachcogmlhcaaGreat.R
