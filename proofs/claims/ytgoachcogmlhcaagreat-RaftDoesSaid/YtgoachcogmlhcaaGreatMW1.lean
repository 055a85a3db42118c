/- The program's functions answer what the models answer: 1. -/
import Derived.Test.YtgoachcogmlhcaaGreatMW0
set_option maxRecDepth 100000
set_option maxHeartbeats 1600000
set_option linter.unusedVariables false
set_option linter.unusedSimpArgs false
set_option linter.defProp false
noncomputable section
namespace Go.Proofs.YtgoachcogmlhcaaGreat.R
open Go Nat
noncomputable abbrev ydmh(r:Bool):Ex→St→Prop:=yay 0 [.tmp 2] (.bool r) [] 0
theorem ztv{x0:Int}{r:Bool} (h:zms x0=some r):yag Pg 134 [.int .i64 x0] [] 0 (.bool r) [] 0:=by
  refine yag.intro Tryz.func134 yavx (yad rfl) ?_
  show Wp Pg 6 0 yaod ⟨yal _ yaoe,[],_,_⟩ (ydmh r)
  unfold zms at h
  unfold yaod
  refine yai [] ?_
  replace h:=yah h; subst h
  refine Wp.seq (yh (yb (Wp.seq ?_)))
  refine yh (yb (Wp.ret ?_))
  exact yan
noncomputable abbrev ybrl(r:Bool):Ex→St→Prop:=yay 0 [.tmp 4] (.bool r) [] 0
theorem zaba{x0:Int}{y:Int}{r:Bool} (h:znt x0 y=some r):yag Pg 124 [.int .i64 x0,.int .i64 y] [] 0 (.bool r) [] 0:=by
  refine yag.intro Tryz.func124 yavs (yad rfl) ?_
  show Wp Pg 17 0 yanz ⟨yal _ yaoa,[],_,_⟩ (ybrl r)
  unfold znt at h
  unfold yanz
  refine yai [] ?_
  refine Wp.seq (yh (yb (Wp.seq (Wp.reg ?_))))
  replace h:=yx h; obtain ⟨r0,g1,h⟩:=h
  refine yaq 2 (yp (ztv g1) (yf _)) ?_
  replace h:=ifS h; rcases h with ⟨g2,h⟩ | ⟨g2,h⟩
  ·replace h:=yx h; obtain ⟨r0_1,g3,h⟩:=h
   refine yaq 3 (yp (ztv g3) (yf _)) ?_
   replace h:=ifS h; rcases h with ⟨g4,h⟩ | ⟨g4,h⟩
   ·replace h:=yah h; subst h
    refine yak (yf _) (yb (Wp.ret ?_))
    exact ycl [.kill [0,1],.tidy]
   ·replace h:=yah h; subst h
    refine yak (yf _) (yb (Wp.ret ?_))
    exact ycl [.kill [0,1],.tidy]
  ·replace h:=yah h; subst h
   refine yak (yf _) (yb (Wp.ret ?_))
   exact ycl [.kill [0,1],.tidy]
noncomputable abbrev yjv(r:(List Int)):Ex→St→Prop:=yay 1 [] (.tup []) [(0,.arr 1 (List.map (ci .i64) r) 0)] 1
noncomputable abbrev zy(a b:Int)(rec0:Int→(List Int)→Option (List Int))(r:(List Int)):Prop:=∀ {i:Int} {data_1:(List Int)},rec0 i data_1=some r→LWp Pg 49 1 ylp ⟨[(0,.own 1 0 0 data_1.length false),(1,.int .i64 a),(2,.int .i64 b),(6,.int .i64 i),(7,.bad),(12,.bad),(30,.bad)],[],[(0,.arr 1 (List.map (ci .i64) data_1) 0)],1⟩ (yam 0 (yjv r))
noncomputable abbrev zdw(a b i:Int)(rec0:Int→(List Int)→Option (List Int))(r:(List Int)):Prop:=∀ {j:Int} {data_2:(List Int)},rec0 j data_2=some r→LWp Pg 49 1 yth ⟨[(0,.own 1 0 0 data_2.length false),(1,.int .i64 a),(2,.int .i64 b),(6,.int .i64 i),(7,.int .i64 j),(12,.bad),(30,.bad)],[],[(0,.arr 1 (List.map (ci .i64) data_2) 0)],1⟩ (yam 2 (yam 1 (yav Pg 49 1 (.reg none yti) (ydl Pg 49 1 ylp (yam 0 (yjv r))))))
theorem zpo{a b i:Int}{data_3:(List Int)}{r:(List Int)}{za:Int→(List Int)→Option (List Int)}(zj:zy a b za r)(h:zbb za i data_3=some r):Wp Pg 49 1 (.reg none yti) ⟨[(0,.own 1 0 0 data_3.length false),(1,.int .i64 a),(2,.int .i64 b),(6,.int .i64 i),(7,.bad),(12,.bad),(30,.bad)],[],[(0,.arr 1 (List.map (ci .i64) data_3) 0)],1⟩ (ydl Pg 49 1 ylp (yam 0 (yjv r))):=by
  unfold zbb at h
  refine yh (ydk ?_)
  exact ybl [] (zj h)
theorem zir{a b i j:Int}{data_2:(List Int)}{v30:Bool}{r:(List Int)}{zk:Int→(List Int)→Option (List Int)}{za:Int→(List Int)→Option (List Int)}(zbf:zdw a b i zk r)(zj:zy a b za r)(h:zad zk za i j data_2 v30=some r):Wp Pg 49 1 (.cond (.t 30) .skip (.out 2)) ⟨[(0,.own 1 0 0 data_2.length false),(1,.int .i64 a),(2,.int .i64 b),(6,.int .i64 i),(7,.int .i64 j),(12,.bad),(30,.bool v30)],[],[(0,.arr 1 (List.map (ci .i64) data_2) 0)],1⟩ (yav Pg 49 1 (.seq (.block 3 (.reg (some []) yavp)) (.reg none yavq)) (ydl Pg 49 1 yth (yam 2 (yam 1 (yav Pg 49 1 (.reg none yti) (ydl Pg 49 1 ylp (yam 0 (yjv r)))))))):=by
  unfold zad at h
  replace h:=ifS h; rcases h with ⟨g6,h⟩ | ⟨g6,h⟩
  ·refine yab (Wp.skip (yb (Wp.seq (Wp.block ?_))))
   replace h:=yx h; obtain ⟨e_2,g7,h⟩:=h
   replace h:=yx h; obtain ⟨e_3,g8,h⟩:=h
   replace h:=yx h; obtain ⟨e_4,g9,h⟩:=h
   have:=ycr (n:=1) (id:=0) (ex:=false) (k:=.i64) g7 rfl
   have:=ydw (c:=(ci .i64)) g7
   have:=ycr (n:=1) (id:=0) (ex:=false) (k:=.i64) g8 rfl
   have:=ydw (c:=(ci .i64)) g8
   have:=ygk (ci .i64) data_2 j e_2
   try simp only [EV,EVt, *] at this
   have:=ycr (n:=1) (id:=0) (ex:=false) (k:=.i64) g9 rfl
   try simp only [EV,EVt, *] at this
   have:=ydw (c:=(ci .i64)) g9
   try simp only [EV,EVt, *] at this
   have:=ygk (ci .i64) (ybi data_2 j e_2) (IntKind.i64.wrap (j - (1:Int))) e_3
   try simp only [EV,EVt, *] at this
   refine yap [] yao (yau _) (ybh (yb ?_))
   refine yh (ydk ?_)
   exact ybl [.kill [30],.tidy] (zbf h)
  ·refine yaa (Wp.out (ydy (ydi (ycn (ybh (yb ?_))))))
   exact yt [.kill [7,30]] (zpo (a:=a) (b:=b) zj h)
theorem zou{b a i:Int}{r:(List Int)}{za:Int→(List Int)→Option (List Int)}(zj:zy a b za r){zk:Int→(List Int)→Option (List Int)}(zbf:zdw a b i zk r){j:Int}{data_2:(List Int)}(h:zaq za a i zk j data_2=some r):LWp Pg 49 1 yth ⟨[(0,.own 1 0 0 data_2.length false),(1,.int .i64 a),(2,.int .i64 b),(6,.int .i64 i),(7,.int .i64 j),(12,.bad),(30,.bad)],[],[(0,.arr 1 (List.map (ci .i64) data_2) 0)],1⟩ (yam 2 (yam 1 (yav Pg 49 1 (.reg none yti) (ydl Pg 49 1 ylp (yam 0 (yjv r)))))):=by
  unfold zaq at h
  refine LWp.stepC yth.eq_1 ?_
  refine Wp.seq (Wp.seq ?_)
  replace h:=ifS h; rcases h with ⟨g2,h⟩ | ⟨g2,h⟩
  ·replace h:=yx h; obtain ⟨e,g3,h⟩:=h
   replace h:=yx h; obtain ⟨e_1,g4,h⟩:=h
   replace h:=yx h; obtain ⟨r0,g5,h⟩:=h
   have:=ycr (n:=1) (id:=0) (ex:=false) (k:=.i64) g3 rfl
   have:=ydw (c:=(ci .i64)) g3
   have:=ycr (n:=1) (id:=0) (ex:=false) (k:=.i64) g4 rfl
   have:=ydw (c:=(ci .i64)) g4
   refine yap [124] yao (ybk 13 (yp (zaba g5) (yf _)) (yau _)) (yb ?_)
   exact yt [.tidy] (zir (a:=a) (b:=b) zbf zj h)
  ·refine yap [] yao (yau _) (yb ?_)
   exact yt [.tidy] (zir (a:=a) (b:=b) zbf zj h)
theorem zpq{b a i:Int}{r:(List Int)}{za:Int→(List Int)→Option (List Int)}(zj:zy a b za r):∀ (n:Nat),zdw a b i (zn za a i n) r:=by
  intro n
  induction n with
  | zero=>intro j data_2 h; unfold zn at h; cases h
  | succ n ih=>intro j data_2 h; unfold zn at h; exact zou (b:=b) zj ih h
theorem zot{a b:Int}{r:(List Int)} {za:Int→(List Int)→Option (List Int)}(zj:zy a b za r){i:Int}{data_1:(List Int)}(h:zap a b za i data_1=some r):LWp Pg 49 1 ylp ⟨[(0,.own 1 0 0 data_1.length false),(1,.int .i64 a),(2,.int .i64 b),(6,.int .i64 i),(7,.bad),(12,.bad),(30,.bad)],[],[(0,.arr 1 (List.map (ci .i64) data_1) 0)],1⟩ (yam 0 (yjv r)):=by
  unfold zap at h
  refine LWp.stepC ylp.eq_1 ?_
  refine Wp.seq (Wp.seq (yh (yb ?_)))
  replace h:=ifS h; rcases h with ⟨g1,h⟩ | ⟨g1,h⟩
  ·refine yab (Wp.skip (yb (Wp.seq (Wp.block (Wp.seq ?_)))))
   refine yh (yb (Wp.block (Wp.loop ?_)))
   exact ybl [.kill [12]] (zpq (b:=b) zj _ h)
  ·replace h:=yah h; subst h
   refine yaa (Wp.out (ydy (ydi (ycn ?_))))
   exact ycl [.kill [0,1,2,6,12],.tidy]
theorem zpp{a b:Int}{r:(List Int)}:∀ (n:Nat),zy a b (zl a b n) r:=by
  intro n
  induction n with
  | zero=>intro i data_1 h; unfold zl at h; cases h
  | succ n ih=>intro i data_1 h; unfold zl at h; exact zot ih h
theorem zqs{data:(List Int)}{a:Int}{b:Int}{r:(List Int)} (h:zbl data a b=some r):yag Pg 118 [.own 1 0 0 data.length false,.int .i64 a,.int .i64 b] [(0,.arr 1 (List.map (ci .i64) data) 0)] 1 (.tup []) [(0,.arr 1 (List.map (ci .i64) r) 0)] 1:=by
  refine yag.intro Tryz.func118 yavr (yad rfl) ?_
  show Wp Pg 49 1 yanw ⟨yal _ yanx,[],_,_⟩ (yjv r)
  unfold zbl at h
  unfold yanw
  refine yai [] ?_
  refine Wp.seq (yh (yb (Wp.block (Wp.loop ?_))))
  exact ybl [.kill [7,12,30]] (zpp _ h)
noncomputable abbrev yxm(r:(List Int)):Ex→St→Prop:=yay 1 [] (.tup []) [(0,.arr 1 (List.map (ci .i64) r) 0)] 1
noncomputable abbrev zln(data:(List Int))(a b limit:Int)(rec0:Option (List Int))(r:(List Int)):Prop:=rec0=some r→LWp Pg 134 1 yyu ⟨[(0,.own 1 0 0 data.length false),(1,.int .i64 a),(2,.int .i64 b),(3,.int .i64 limit),(8,.bool true),(9,.bool true),(10,.bad),(11,.bad),(12,.bad),(13,.bad),(14,.bad),(15,.bad),(16,.bad),(17,.bad),(18,.bad),(23,.bad),(29,.bad),(35,.bad),(50,.bad),(68,.bad),(72,.bad),(87,.bad),(113,.bad)],[],[(0,.arr 1 (List.map (ci .i64) data) 0)],1⟩ (yam 0 (yxm r))
theorem zrd{data:(List Int)}{a b limit:Int}{r:(List Int)} {zfr:Option (List Int)}(zzx:zln data a b limit zfr r) (h:zdk data a b limit zfr=some r):LWp Pg 134 1 yyu ⟨[(0,.own 1 0 0 data.length false),(1,.int .i64 a),(2,.int .i64 b),(3,.int .i64 limit),(8,.bool true),(9,.bool true),(10,.bad),(11,.bad),(12,.bad),(13,.bad),(14,.bad),(15,.bad),(16,.bad),(17,.bad),(18,.bad),(23,.bad),(29,.bad),(35,.bad),(50,.bad),(68,.bad),(72,.bad),(87,.bad),(113,.bad)],[],[(0,.arr 1 (List.map (ci .i64) data) 0)],1⟩ (yam 0 (yxm r)):=by
  unfold zdk at h
  refine LWp.stepC yyu.eq_1 ?_
  refine Wp.block (Wp.seq (yh (yb (Wp.seq (Wp.seq ?_)))))
  refine yh (yb ?_)
  replace h:=ifS h; rcases h with ⟨g1,h⟩ | ⟨g1,h⟩
  ·refine yab (Wp.seq (Wp.reg ?_))
   replace h:=yx h; obtain ⟨r0,g2,h⟩:=h
   replace h:=ycw h; obtain ⟨g3,h⟩:=h
   replace h:=yah h; subst h
   have:=of_decide_eq_true g3
   refine ycy (yp (zqs g2) (yf _)) (yb (Wp.ret (yax (ybn (ymi (ybn ?_))))))
   exact ycl [.kill [0,1,2,3,8,9,10,23],.tidy]
  ·refine yaa (Wp.skip (yb (Wp.seq (Wp.seq ?_))))
   refine yh (yb ?_)
   replace h:=reqF h; obtain ⟨g4,h⟩:=h
   refine yaa (Wp.skip (yb (Wp.seq (Wp.seq ?_))))
   refine yh (yb ?_)
   refine yaa (Wp.skip (yb ?_))
   cases h
theorem zrr{data:(List Int)}{a b limit:Int}{r:(List Int)}:∀ (n:Nat),zln data a b limit (zai data a b limit n) r:=by
  intro n
  induction n with
  | zero=>intro h; unfold zai at h; cases h
  | succ n ih=>intro h; unfold zai at h; exact zrd ih h
theorem zss{data:(List Int)}{a:Int}{b:Int}{limit:Int}{r:(List Int)} (h:zfy data a b limit=some r):yag Pg 116 [.own 1 0 0 data.length false,.int .i64 a,.int .i64 b,.int .i64 limit] [(0,.arr 1 (List.map (ci .i64) data) 0)] 1 (.tup []) [(0,.arr 1 (List.map (ci .i64) r) 0)] 1:=by
  refine yag.intro Tryz.func116 yavn (yad rfl) ?_
  show Wp Pg 134 1 yans ⟨yal _ yant,[],_,_⟩ (yxm r)
  unfold zfy at h
  unfold yans
  refine yai [] ?_
  refine Wp.seq (yh (yb (Wp.seq ?_)))
  refine yh (yb (Wp.block (Wp.loop ?_)))
  exact ybl [.kill [10,11,12,13,14,15,16,17,18,23,29,35,50,68,72,87,113]] (zrr _ h)
noncomputable abbrev yafl(r:Int):Ex→St→Prop:=yay 0 [.tmp 2] (.int .i64 r) [] 0
theorem zrh{x0_3 n0_2:Int}{r:Int} (h:zhk x0_3 n0_2=some r):Wp Pg 25 0 (.seq (.reg none yuo) .ret) ⟨[(0,.int .u64 x0_3),(2,.int .i64 n0_2),(4,.bad),(8,.bad),(14,.bad)],[],[],0⟩ (yafl r):=by
  unfold zhk at h
  refine Wp.seq ?_
  replace h:=yx h; obtain ⟨c,g4,h⟩:=h
  replace h:=yah h; subst h
  refine yh (yb (Wp.ret ?_))
  exact yan
theorem zrg{x0_2 n0_1:Int}{r:Int} (h:zhj x0_2 n0_1=some r):Wp Pg 25 0 (.seq (.seq (.reg none yagu) (.cond (.t 14) (.seq (.reg none yagv) (.reg none yagw)) .skip)) (.seq (.reg none yuo) .ret)) ⟨[(0,.int .u64 x0_2),(2,.int .i64 n0_1),(4,.bad),(8,.bad),(14,.bad)],[],[],0⟩ (yafl r):=by
  unfold zhj at h
  refine Wp.seq (Wp.seq (yh (yb ?_)))
  replace h:=ifS h; rcases h with ⟨g3,h⟩ | ⟨g3,h⟩
  ·refine yab (Wp.seq ?_)
   refine yh (yb ?_)
   refine yh (yb ?_)
   exact yt [.kill [14]] (zrh h)
  ·refine yaa (Wp.skip (yb ?_))
   exact yt [.kill [14]] (zrh h)
theorem zrf{x0_1 n0:Int}{r:Int} (h:zhi x0_1 n0=some r):Wp Pg 25 0 (.seq (.seq (.reg none yavt) (.cond (.t 8) (.seq (.reg none yavu) (.reg none yavv)) .skip)) (.seq (.seq (.reg none yagu) (.cond (.t 14) (.seq (.reg none yagv) (.reg none yagw)) .skip)) (.seq (.reg none yuo) .ret))) ⟨[(0,.int .u64 x0_1),(2,.int .i64 n0),(4,.bad),(8,.bad),(14,.bad)],[],[],0⟩ (yafl r):=by
  unfold zhi at h
  refine Wp.seq (Wp.seq (yh (yb ?_)))
  replace h:=ifS h; rcases h with ⟨g2,h⟩ | ⟨g2,h⟩
  ·refine yab (Wp.seq ?_)
   refine yh (yb ?_)
   refine yh (yb ?_)
   exact yt [.kill [8]] (zrg h)
  ·refine yaa (Wp.skip (yb ?_))
   exact yt [.kill [8]] (zrg h)
theorem zyq{x0:Int}{r:Int} (h:zno x0=some r):yag Pg 128 [.int .u64 x0] [] 0 (.int .i64 r) [] 0:=by
  refine yag.intro Tryz.func128 yavw (yad rfl) ?_
  show Wp Pg 25 0 yaob ⟨yal _ yaoc,[],_,_⟩ (yafl r)
  unfold zno at h
  unfold yaob
  refine yai [] ?_
  refine Wp.seq (yh (yb (Wp.seq (Wp.seq ?_))))
  refine yh (yb ?_)
  replace h:=ifS h; rcases h with ⟨g1,h⟩ | ⟨g1,h⟩
  ·refine yab (Wp.seq ?_)
   refine yh (yb ?_)
   refine yh (yb ?_)
   exact yt [.kill [4,8,14]] (zrf h)
  ·refine yaa (Wp.skip (yb ?_))
   exact yt [.kill [4,8,14]] (zrf h)
noncomputable abbrev ydmg(r:Int):Ex→St→Prop:=yay 0 [.tmp 2] (.int .i64 r) [] 0
theorem zaaj{x0:Int}{r:Int} (h:zmw x0=some r):yag Pg 117 [.int .u64 x0] [] 0 (.int .i64 r) [] 0:=by
  refine yag.intro Tryz.func117 yavo (yad rfl) ?_
  show Wp Pg 8 0 yanu ⟨yal _ yanv,[],_,_⟩ (ydmg r)
  unfold zmw at h
  unfold yanu
  refine yai [] ?_
  refine Wp.seq (yh (yb (Wp.seq ?_)))
  refine yaa (Wp.skip (yb (Wp.seq (Wp.reg ?_))))
  replace h:=yx h; obtain ⟨r0,g1,h⟩:=h
  replace h:=yah h; subst h
  refine yaq 2 (yp (zyq g1) (yf _)) ?_
  refine yak (yf _) (yb (Wp.ret ?_))
  exact yan
noncomputable abbrev ybrk(r:(List Int)):Ex→St→Prop:=yay 1 [] (.tup []) [(0,.arr 1 (List.map (ci .i64) r) 0)] 1
theorem zwc{x0:(List Int)}{r:(List Int)} (h:zhb x0=some r):yag Pg 115 [.own 1 0 0 x0.length false] [(0,.arr 1 (List.map (ci .i64) x0) 0)] 1 (.tup []) [(0,.arr 1 (List.map (ci .i64) r) 0)] 1:=by
  refine yag.intro Tryz.func115 yavm (yad rfl) ?_
  show Wp Pg 11 1 yanq ⟨yal _ yanr,[],_,_⟩ (ybrk r)
  unfold zhb at h
  unfold yanq
  refine yai [] ?_
  refine Wp.seq (yh (yb (Wp.reg ?_)))
  replace h:=yx h; obtain ⟨r0,g1,h⟩:=h
  refine yaq 5 (yp (zaaj g1) (yf _)) ?_
  replace h:=yx h; obtain ⟨r0_1,g2,h⟩:=h
  replace h:=ycw h; obtain ⟨g3,h⟩:=h
  replace h:=yah h; subst h
  have:=of_decide_eq_true g3
  refine ycy (yp (zss g2) (yf _)) ?_
  exact ycl [.kill [0,2],.tidy]
noncomputable abbrev yabw(r:(List yc)):Ex→St→Prop:=yay 0 [.tmp 2] (.own 2 0 0 r.length false) [(0,.arr 2 (List.map yc.c r) 0)] 1
noncomputable abbrev ztf(l:(List yc))(rec0:Int→(List yc)→Option (List yc))(r:(List yc)):Prop:=∀ {v8:Int} {out:(List yc)},rec0 v8 out=some r→LWp Pg 23 0 yaes ⟨[(0,.bad),(2,.bad),(3,.own 2 0 0 out.length false),(5,.bad),(6,sl yc.c l),(7,.int .i64 (l.length:Int)),(8,.int .i64 v8),(9,.bad)],[],[(0,.arr 2 (List.map yc.c out) 0)],1⟩ (yam 0 (yav Pg 23 0 (.seq (.reg none yapm) .ret) (yabw r)))
theorem zxy{l:(List yc)}{r:(List yc)} {zlb:Int→(List yc)→Option (List yc)}(zwx:ztf l zlb r){v8:Int}{out:(List yc)}(h:zjc l zlb v8 out=some r):LWp Pg 23 0 yaes ⟨[(0,.bad),(2,.bad),(3,.own 2 0 0 out.length false),(5,.bad),(6,sl yc.c l),(7,.int .i64 (l.length:Int)),(8,.int .i64 v8),(9,.bad)],[],[(0,.arr 2 (List.map yc.c out) 0)],1⟩ (yam 0 (yav Pg 23 0 (.seq (.reg none yapm) .ret) (yabw r))):=by
  unfold zjc at h
  refine LWp.stepC yaes.eq_1 ?_
  refine Wp.seq (yh (yb (Wp.seq ?_)))
  replace h:=ifS h; rcases h with ⟨g1,h⟩ | ⟨g1,h⟩
  ·refine yab (Wp.skip (yb (Wp.seq (Wp.block (Wp.seq ?_)))))
   replace h:=yx h; obtain ⟨e,g2,h⟩:=h
   refine yh (yb ?_)
   replace h:=ycw h; obtain ⟨g3,h⟩:=h
   replace h:=ycw h; obtain ⟨g4,h⟩:=h
   refine yap [] yao (yau _) (ybh (yb ?_))
   refine yh (ydk ?_)
   exact ybl [.kill [5,9],.tidy] (zwx h)
  ·replace h:=yah h; subst h
   refine yaa (Wp.out (ydy (ydi (ycn (yb (Wp.seq ?_))))))
   refine yh (yb (Wp.ret ?_))
   exact ycl [.kill [3,6,7,8,9],.tidy]
theorem zzo{l:(List yc)}{r:(List yc)}:∀ (n:Nat),ztf l (zem l n) r:=by
  intro n
  induction n with
  | zero=>intro v8 out h; unfold zem at h; cases h
  | succ n ih=>intro v8 out h; unfold zem at h; exact zxy ih h
theorem zps{l:(List yc)}{r:(List yc)} (h:zid l=some r):yag Pg 81 [sl yc.c l] [] 0 (.own 2 0 0 r.length false) [(0,.arr 2 (List.map yc.c r) 0)] 1:=by
  refine yag.intro Tryz.func81 ybnm (yad rfl) ?_
  show Wp Pg 23 0 ybda ⟨yal _ ybdb,[],_,_⟩ (yabw r)
  unfold zid at h
  unfold ybda
  refine yai [] ?_
  refine Wp.seq (yh (yb (Wp.seq ?_)))
  refine yh (yb (Wp.seq (Wp.seq ?_)))
  refine yh (yb (Wp.block (Wp.loop ?_)))
  exact ybl [.kill [0,2,5,9],.at 3 (.virt 2)] (zzo _ h)
noncomputable abbrev ybzr(r:yz):Ex→St→Prop:=yay 0 [.cell 2 true 3] (.agg [.int .i64 r.yn,.int .i64 r.yi,.own 2 0 0 ((r.Entries).length) false]) [(0,.arr 2 (List.map yc.c r.Entries) 0)] 1
theorem zkf{l:yz}{r:yz} (h:zgd l=some r):yag Pg 42 [.agg [.int .i64 l.yn,.int .i64 l.yi,sl yc.c l.Entries]] [] 0 (.agg [.int .i64 r.yn,.int .i64 r.yi,.own 2 0 0 ((r.Entries).length) false]) [(0,.arr 2 (List.map yc.c r.Entries) 0)] 1:=by
  refine yag.intro Tryz.func42 ybkj (yad rfl) ?_
  show Wp Pg 11 0 ybao ⟨yal _ ybap,[],_,_⟩ (ybzr r)
  unfold zgd at h
  unfold ybao
  refine yai [] ?_
  refine Wp.seq (yh (yb (Wp.seq ?_)))
  replace h:=yx h; obtain ⟨r0,g1,h⟩:=h
  replace h:=yah h; subst h
  refine yap [81] yao (ybk 6 (yp (zps g1) (yf _)) (yau _)) (yb (Wp.ret ?_))
  exact ycl [.kill [0,1],.tidy]
noncomputable abbrev ybzj(r:ye):Ex→St→Prop:=yay 0 [.cell 2 true 16] (.agg [.int .i64 r.Id,.int .i64 r.N,.int .i64 r.Term,.int .i64 r.yac,.int .i64 r.yv,.int .i64 r.yaf,.int .i64 r.yj.yn,.int .i64 r.yj.yi,.own 2 0 0 ((r.yj.Entries).length) false,.int .i64 r.yl,.own 1 1 0 ((r.yy).length) false,.own 1 2 0 ((r.ym).length) false,.own 1 3 0 ((r.Next).length) false,.own 1 4 0 ((r.yr).length) false,.int .i64 r.yu,.int .i64 r.yae]) [(0,.arr 2 (List.map yc.c r.yj.Entries) 0),(1,.arr 1 (List.map (ci .u8) r.yy) 0),(2,.arr 1 (List.map cb r.ym) 0),(3,.arr 1 (List.map (ci .i64) r.Next) 0),(4,.arr 1 (List.map (ci .i64) r.yr) 0)] 5
theorem zacp{r0:ye}{r:ye} (h:zta r0=some r):yag Pg 15 [.agg [.int .i64 r0.Id,.int .i64 r0.N,.int .i64 r0.Term,.int .i64 r0.yac,.int .i64 r0.yv,.int .i64 r0.yaf,.int .i64 r0.yj.yn,.int .i64 r0.yj.yi,sl yc.c r0.yj.Entries,.int .i64 r0.yl,sl (ci .u8) r0.yy,sl cb r0.ym,sl (ci .i64) r0.Next,sl (ci .i64) r0.yr,.int .i64 r0.yu,.int .i64 r0.yae]] [] 0 (.agg [.int .i64 r.Id,.int .i64 r.N,.int .i64 r.Term,.int .i64 r.yac,.int .i64 r.yv,.int .i64 r.yaf,.int .i64 r.yj.yn,.int .i64 r.yj.yi,.own 2 0 0 ((r.yj.Entries).length) false,.int .i64 r.yl,.own 1 1 0 ((r.yy).length) false,.own 1 2 0 ((r.ym).length) false,.own 1 3 0 ((r.Next).length) false,.own 1 4 0 ((r.yr).length) false,.int .i64 r.yu,.int .i64 r.yae]) [(0,.arr 2 (List.map yc.c r.yj.Entries) 0),(1,.arr 1 (List.map (ci .u8) r.yy) 0),(2,.arr 1 (List.map cb r.ym) 0),(3,.arr 1 (List.map (ci .i64) r.Next) 0),(4,.arr 1 (List.map (ci .i64) r.yr) 0)] 5:=by
  refine yag.intro Tryz.func15 ybiu (yad rfl) ?_
  show Wp Pg 24 0 yazg ⟨yal _ yazh,[],_,_⟩ (ybzj r)
  unfold zta at h
  unfold yazg
  refine yai [] ?_
  refine Wp.seq (yh (yb (Wp.seq (Wp.reg ?_))))
  replace h:=yx h; obtain ⟨r0_1,g1,h⟩:=h
  refine yew 3 (yp (zkf g1) (yf _)) ?_
  refine yak (yf _) (yb (Wp.seq ?_))
  replace h:=ycw h; obtain ⟨g2,h⟩:=h
  replace h:=ycw h; obtain ⟨g3,h⟩:=h
  refine yap [] yao (yau _) (yb (Wp.seq ?_))
  replace h:=ycw h; obtain ⟨g4,h⟩:=h
  replace h:=ycw h; obtain ⟨g5,h⟩:=h
  replace h:=yah h; subst h
  refine yap [] yao (yau _) (yb (Wp.seq ?_))
  refine yh (yb (Wp.ret ?_))
  exact ycl [.kill [0,1],.tidy]
noncomputable abbrev ybzk(r:yd):Ex→St→Prop:=yay 0 [.tmp 2] (.ptr 0 0) (hs9 r) 7
theorem ztc{r0:ye}{r:yd} (h:zoh r0=some r):yag Pg 28 [.agg [.int .i64 r0.Id,.int .i64 r0.N,.int .i64 r0.Term,.int .i64 r0.yac,.int .i64 r0.yv,.int .i64 r0.yaf,.int .i64 r0.yj.yn,.int .i64 r0.yj.yi,sl yc.c r0.yj.Entries,.int .i64 r0.yl,sl (ci .u8) r0.yy,sl cb r0.ym,sl (ci .i64) r0.Next,sl (ci .i64) r0.yr,.int .i64 r0.yu,.int .i64 r0.yae]] [] 0 (.ptr 0 0) (hs9 r) 7:=by
  refine yag.intro Tryz.func28 ybkf (yad rfl) ?_
  show Wp Pg 7 0 ybag ⟨yal _ ybah,[],_,_⟩ (ybzk r)
  unfold zoh at h
  unfold ybag
  refine yai [] ?_
  refine Wp.seq (yh (yb (Wp.seq (Wp.reg ?_))))
  replace h:=yx h; obtain ⟨r0_1,g1,h⟩:=h
  replace h:=yah h; subst h
  refine yew 2 (yp (zacp g1) (yf _)) ?_
  refine yak (yf _) (yb (Wp.ret ?_))
  exact ycl [.cell 2 16 (.virt 11),.kill [0,1],.tidy]
noncomputable abbrev ybzy(x0:yg)(r:yd):Ex→St→Prop:=yay 7 [] (.tup []) (zadd r x0.ybq) 8
theorem zse{to0:Int}{x0:yg}{m:yd}{r:yd} (h:zcy to0 x0 m=some r):yag Pg 76 [.ptr 0 0,.int .i64 to0,.agg [.int .i64 x0.yar,.int .i64 x0.yct,.int .i64 x0.From,.int .i64 x0.To,.int .i64 x0.Term,.int .i64 x0.At,.int .i64 x0.ybd,.int .i64 x0.yl,.bool x0.Ok,sl yc.c x0.Entries,.own 1 6 0 ((x0.ybq).length) false]] (zadx m x0.ybq) 7 (.tup []) (zadd r x0.ybq) 8:=by
  refine yag.intro Tryz.func76 ywx (yad rfl) ?_
  show Wp Pg 24 7 ypk ⟨yal _ yzn,[],_,_⟩ (ybzy x0 r)
  unfold zcy at h
  unfold ypk
  refine yai [.movc 0 16] ?_
  refine Wp.seq (yh (yb (Wp.seq ?_)))
  refine yh (yb ?_)
  replace h:=ycw h; obtain ⟨g1,h⟩:=h
  replace h:=yah h; subst h
  refine yap [] yao (yau _) ?_
  exact ycl [.kill [0,1,2,5],.tidy]
noncomputable abbrev ydso(r:Int):Ex→St→Prop:=yay 0 [.tmp 2] (.int .i64 r) [] 0
theorem zbr{l:yz}{r:Int} (h:zam l=some r):yag Pg 34 [.agg [.int .i64 l.yn,.int .i64 l.yi,sl yc.c l.Entries]] [] 0 (.int .i64 r) [] 0:=by
  refine yag.intro Tryz.func34 ybkh (yad rfl) ?_
  show Wp Pg 9 0 ybak ⟨yal _ ybal,[],_,_⟩ (ydso r)
  unfold zam at h
  unfold ybak
  refine yai [] ?_
  replace h:=yah h; subst h
  refine Wp.seq (yh (yb (Wp.seq ?_)))
  refine yh (yb (Wp.ret ?_))
  exact yan
noncomputable abbrev ycdg(r:(Int × Bool)):Ex→St→Prop:=yay 0 [.tmp 4,.tmp 5] (.tup [.int .i64 r.1,.bool r.2]) [] 0
theorem zve{l:yz}{at0:Int}{v13:Bool}{r:(Int × Bool)} (h:znv l at0 v13=some r):Wp Pg 34 0 (.cond (.t 13) (.seq (.reg none ybnc) .ret) .skip) ⟨[(0,.bad),(1,.int .i64 at0),(2,.ptr 0 0),(4,.bad),(5,.bad),(6,.bad),(13,.bool v13)],[],[(0,.box [.int .i64 l.yn,.int .i64 l.yi,sl yc.c l.Entries])],1⟩ (yam 0 (yav Pg 34 0 (.seq (.reg none ybnd) .ret) (ycdg r))):=by
  unfold znv at h
  replace h:=ifS h; rcases h with ⟨g4,h⟩ | ⟨g4,h⟩
  ·replace h:=yah h; subst h
   refine yab (Wp.seq ?_)
   refine yh (yb (Wp.ret (ybn (yax ?_))))
   exact yan
  ·refine yaa (Wp.skip (ybh (yb (Wp.seq ?_))))
   replace h:=yx h; obtain ⟨e,g5,h⟩:=h
   replace h:=yah h; subst h
   refine yh (yb (Wp.ret ?_))
   exact yan
theorem zdq{l:yz}{at0:Int}{r:(Int × Bool)} (h:zbv l at0=some r):yag Pg 74 [.agg [.int .i64 l.yn,.int .i64 l.yi,sl yc.c l.Entries],.int .i64 at0] [] 0 (.tup [.int .i64 r.1,.bool r.2]) [] 0:=by
  refine yag.intro Tryz.func74 ybne (yad rfl) ?_
  show Wp Pg 34 0 ybcq ⟨yal _ ybcr,[],_,_⟩ (ycdg r)
  unfold zbv at h
  unfold ybcq
  refine yai [] ?_
  refine Wp.seq (yh (yb (Wp.seq (Wp.block (Wp.seq ?_)))))
  refine yh (yb ?_)
  replace h:=ifS h; rcases h with ⟨g1,h⟩ | ⟨g1,h⟩
  ·replace h:=yah h; subst h
   refine yab (Wp.seq ?_)
   refine yh (yb (Wp.ret (ybn (yax ?_))))
   exact yan
  ·refine yaa (Wp.seq (Wp.reg ?_))
   replace h:=ifS h; rcases h with ⟨g2,h⟩ | ⟨g2,h⟩
   ·refine yak (yf _) (yb ?_)
    exact yt [.kill [0,4,5,6]] (zve h)
   ·replace h:=yx h; obtain ⟨r0,g3,h⟩:=h
    refine yaq 8 (yp (zbr g3) (yf _)) ?_
    refine yak (yf _) (yb ?_)
    exact yt [.kill [0,4,5,6]] (zve h)
noncomputable abbrev ycdh(r:(List yc)):Ex→St→Prop:=yay 0 [.tmp 6] (sl yc.c r) [] 0
theorem zrp{l:yz}{at0 most:Int}{v21:Bool}{r:(List yc)} (h:zlg l at0 most v21=some r):Wp Pg 37 0 (.cond (.t 21) (.seq (.reg none ybnf) .ret) .skip) ⟨[(0,.bad),(1,.int .i64 at0),(2,.int .i64 most),(3,.ptr 0 0),(6,.bad),(7,.bad),(21,.bool v21)],[],[(0,.box [.int .i64 l.yn,.int .i64 l.yi,sl yc.c l.Entries])],1⟩ (yav Pg 37 0 (.seq (.reg none ybng) (.seq (.reg none ybnh) .ret)) (ycdh r)):=by
  unfold zlg at h
  replace h:=ifS h; rcases h with ⟨g4,h⟩ | ⟨g4,h⟩
  ·replace h:=yah h; subst h
   refine yab (Wp.seq ?_)
   refine yh (yb ?_)
   refine yai [.at 6 .frz] (Wp.ret (yax ?_))
   exact yan
  ·refine yaa (Wp.skip (yb (Wp.seq ?_)))
   replace h:=yx h; obtain ⟨l_1,g5,h⟩:=h
   refine yh (yb (Wp.seq (Wp.reg ?_)))
   replace h:=yx h; obtain ⟨l_2,g6,h⟩:=h
   replace h:=yx h; obtain ⟨r0_1,g7,h⟩:=h
   replace h:=yah h; subst h
   refine yew 7 (yp (zps g7) (yf _)) ?_
   refine yak (yf _) (yb ?_)
   refine yai [.at 6 .frz] (Wp.ret ?_)
   exact yan
theorem zyk{l:yz}{at0:Int}{most:Int}{r:(List yc)} (h:znl l at0 most=some r):yag Pg 75 [.agg [.int .i64 l.yn,.int .i64 l.yi,sl yc.c l.Entries],.int .i64 at0,.int .i64 most] [] 0 (sl yc.c r) [] 0:=by
  refine yag.intro Tryz.func75 ybni (yad rfl) ?_
  show Wp Pg 37 0 ybcs ⟨yal _ ybct,[],_,_⟩ (ycdh r)
  unfold znl at h
  unfold ybcs
  refine yai [] ?_
  refine Wp.seq (yh (yb (Wp.seq (Wp.seq (Wp.reg ?_)))))
  replace h:=ifS h; rcases h with ⟨g1,h⟩ | ⟨g1,h⟩
  ·refine yak (yf _) (yb ?_)
   exact yt [.kill [0,6,7]] (zrp h)
  ·replace h:=yx h; obtain ⟨r0,g2,h⟩:=h
   refine yaq 8 (yp (zbr g2) (yf _)) ?_
   replace h:=ifS h; rcases h with ⟨g3,h⟩ | ⟨g3,h⟩
   ·refine yak (yf _) (yb ?_)
    exact yt [.kill [0,6,7]] (zrp h)
   ·refine yak (yf _) (yb ?_)
    exact yt [.kill [0,6,7]] (zrp h)
noncomputable abbrev yaqr(r:yd):Ex→St→Prop:=yay 6 [] (.tup []) (yum r) 7
theorem zpd{to0:Int}{m:yd}{x_0 x_5 x_6:Int}{x_9:(List yc)}{x_10:(List Int)}{r:yd} (h:zho to0 m x_0 x_5 x_6 x_9 x_10=some r):Wp Pg 84 6 (.reg none yaok) ⟨[(0,.ptr 0 0),(1,.int .i64 to0),(4,.bad),(5,.ptr 7 0),(33,.bad)],[],(hs56 m x_0 (0:Int) (0:Int) (0:Int) x_5 x_6 x_9 x_10),9⟩ (yaqr r):=by
  unfold zho at h
  refine Wp.reg ?_
  replace h:=yx h; obtain ⟨r0_2,g6,h⟩:=h
  replace h:=yah h; subst h
  refine ycy (yp (zse g6) (yf _)) ?_
  exact ycl [.kill [0,1,5],.tidy]
theorem zml{to0:Int}{m:yd}{r:yd} (h:zbc to0 m=some r):yag Pg 30 [.ptr 0 0,.int .i64 to0] (yun m) 6 (.tup []) (yum r) 7:=by
  refine yag.intro Tryz.func30 yaol (yad rfl) ?_
  show Wp Pg 84 6 yadz ⟨yal _ yajq,[],_,_⟩ (yaqr r)
  unfold zbc at h
  unfold yadz
  refine yai [.movc 0 16] ?_
  refine Wp.seq ?_
  replace h:=yx h; obtain ⟨e,g1,h⟩:=h
  have:=ycr (n:=1) (id:=3) (ex:=false) (k:=.i64) g1 rfl
  have:=ydw (c:=(ci .i64)) g1
  refine yh (yb (Wp.seq ?_))
  refine yap [] yao (yau _) (yb (Wp.seq (Wp.seq ?_)))
  refine yh (yb ?_)
  replace h:=ifS h; rcases h with ⟨g2,h⟩ | ⟨g2,h⟩
  ·refine yab ?_
   replace h:=ycw h; obtain ⟨g3,h⟩:=h
   refine yap [] yao (yau _) (yb ?_)
   exact yt [.kill [4,33],.cell 5 9 .frz,.tidy] (zpd h)
  ·refine yaa (Wp.seq ?_)
   refine yh (yb (Wp.seq ?_))
   replace h:=yx h; obtain ⟨r0,g4,h⟩:=h
   refine yap [] yao (ybk 7 (yp (zdq g4) (yf _)) (yau _)) (yb (Wp.reg ?_))
   replace h:=yx h; obtain ⟨r0_1,g5,h⟩:=h
   refine yaq 7 (yp (zyk g5) (yf _)) ?_
   refine yak (yf _) (yb ?_)
   exact yt [.kill [4,33],.cell 5 10 (.virt 1),.tidy] (zpd h)
noncomputable abbrev yvg(r:yd):Ex→St→Prop:=yay 7 [] (.tup []) (yqz r) 8
noncomputable abbrev znk (rec0:Int→Int→Int→Int→Int→Int→Int→Int→Int→(List yc)→Int→Int→Int→(List Int)→(List Bool)→(List Int)→(List Int)→(List yg)→Option yd)(r:yd):Prop:=∀ {to0 m_00 m_10 m_20 m_30 m_40 m_50 m_60 m_70:Int} {m_80:(List yc)} {m_90 ze zh:Int} {zd:(List Int)} {zf:(List Bool)} {zc zg:(List Int)} {zi:(List yg)},rec0 to0 m_00 m_10 m_20 m_30 m_40 m_50 m_60 m_70 m_80 m_90 ze zh zd zf zc zg zi=some r→LWp Pg 24 7 yex ⟨[(0,.ptr 0 0),(1,.fn (.func 30) [.ptr 0 0] []),(4,.int .i64 to0),(11,.bad),(20,.bad)],[],(hp39 m_00 m_10 m_20 m_30 m_40 m_50 m_60 m_70 m_80 m_90 zd zf zc zg ze zh zi),8⟩ (yam 0 (yvg r))
theorem zri{to0 zbw zbx zby zbz zca zcb zcc zcd:Int}{zce:(List yc)}{zcf zax zay:Int}{zau:(List Int)}{zav:(List Bool)}{zw zaw:(List Int)}{zaz:(List yg)}{r:yd}{zaa:Int→Int→Int→Int→Int→Int→Int→Int→Int→(List yc)→Int→Int→Int→(List Int)→(List Bool)→(List Int)→(List Int)→(List yg)→Option yd}(zhd:znk zaa r)(h:zks zaa to0 zbw zbx zby zbz zca zcb zcc zcd zce zcf zax zay zau zav zw zaw zaz=some r):Wp Pg 24 7 (.reg none ytp) ⟨[(0,.ptr 0 0),(1,.fn (.func 30) [.ptr 0 0] []),(4,.int .i64 to0),(11,.bad),(20,.bad)],[],(hp39 zbw zbx zby zbz zca zcb zcc zcd zce zcf zau zav zw zaw zax zay zaz),8⟩ (ydl Pg 24 7 yex (yam 0 (yvg r))):=by
  unfold zks at h
  refine yh (ydk ?_)
  exact ybl [] (zhd h)
theorem zvl {r:yd} {zaa:Int→Int→Int→Int→Int→Int→Int→Int→Int→(List yc)→Int→Int→Int→(List Int)→(List Bool)→(List Int)→(List Int)→(List yg)→Option yd}(zhd:znk zaa r){to0 m_00 m_10 m_20 m_30 m_40 m_50 m_60 m_70:Int}{m_80:(List yc)}{m_90 ze zh:Int}{zd:(List Int)}{zf:(List Bool)}{zc zg:(List Int)}{zi:(List yg)}(h:znm zaa to0 m_00 m_10 m_20 m_30 m_40 m_50 m_60 m_70 m_80 m_90 ze zh zd zf zc zg zi=some r):LWp Pg 24 7 yex ⟨[(0,.ptr 0 0),(1,.fn (.func 30) [.ptr 0 0] []),(4,.int .i64 to0),(11,.bad),(20,.bad)],[],(hp39 m_00 m_10 m_20 m_30 m_40 m_50 m_60 m_70 m_80 m_90 zd zf zc zg ze zh zi),8⟩ (yam 0 (yvg r)):=by
  unfold znm at h
  refine LWp.stepC yex.eq_1 ?_
  refine Wp.seq (Wp.seq (yh (yb ?_)))
  replace h:=ifS h; rcases h with ⟨g1,h⟩ | ⟨g1,h⟩
  ·refine yab (Wp.skip (yb (Wp.seq (Wp.block (Wp.seq ?_)))))
   refine yh (yb ?_)
   replace h:=ifS h; rcases h with ⟨g2,h⟩ | ⟨g2,h⟩
   ·refine yab (Wp.reg ?_)
    replace h:=yx h; obtain ⟨r0,g3,h⟩:=h
    refine ycy (yp (zml g3) (yf _)) (ybh (yb ?_))
    exact yt [.kill [11,20],.tidy] (zri zhd h)
   ·refine yaa (Wp.skip (ybh (yb ?_)))
    exact yt [.kill [11,20]] (zri zhd h)
  ·replace h:=yah h; subst h
   refine yaa (Wp.out (ydy (ydi (ycn ?_))))
   exact ycl [.kill [0,1,4,11],.tidy]
theorem zwm {r:yd}:∀ (n:Nat),znk (zfe n) r:=by
  intro n
  induction n with
  | zero=>intro to0 m_00 m_10 m_20 m_30 m_40 m_50 m_60 m_70 m_80 m_90 ze zh zd zf zc zg zi h; unfold zfe at h; cases h
  | succ n ih=>intro to0 m_00 m_10 m_20 m_30 m_40 m_50 m_60 m_70 m_80 m_90 ze zh zd zf zc zg zi h; unfold zfe at h; exact zvl ih h
theorem zys{m:yd}{r:yd} (h:zkh m=some r):yag Pg 29 [.ptr 0 0,.fn (.func 30) [.ptr 0 0] []] (hs9 m) 7 (.tup []) (yqz r) 8:=by
  refine yag.intro Tryz.func29 ytq (yad rfl) ?_
  show Wp Pg 24 7 ymf ⟨yal _ yup,[],_,_⟩ (yvg r)
  unfold zkh at h
  unfold ymf
  refine yai [.movc 0 16,.movc 0 8] ?_
  refine Wp.seq (yh (yb (Wp.block (Wp.loop ?_))))
  exact ybl [.kill [11,20],.cell 0 8 .frz,.tidy] (zwm _ h)
noncomputable abbrev yvh(r:yd):Ex→St→Prop:=yay 6 [] (.tup []) (yum r) 7
noncomputable abbrev zkn (rec0:Int→Int→Int→Int→Int→Int→Int→Int→Int→(List yc)→Int→Int→Int→(List Int)→(List Bool)→(List Int)→(List Int)→(List yg)→Option yd)(r:yd):Prop:=∀ {to0 m_00 m_10 m_20 m_30 m_40 m_50 m_60 m_70:Int} {m_80:(List yc)} {m_90 ze zh:Int} {zd:(List Int)} {zf:(List Bool)} {zc zg:(List Int)} {zi:(List yg)},rec0 to0 m_00 m_10 m_20 m_30 m_40 m_50 m_60 m_70 m_80 m_90 ze zh zd zf zc zg zi=some r→LWp Pg 24 6 yex ⟨[(0,.ptr 0 0),(1,.fn (.func 30) [.ptr 0 0] []),(4,.int .i64 to0),(11,.bad),(20,.bad)],[],(hp81 m_00 m_10 m_20 m_30 m_40 m_50 m_60 m_70 m_80 m_90 zd zf zc zg ze zh zi),7⟩ (yam 0 (yvh r))
theorem zpu{to0 zbw zbx zby zbz zca zcb zcc zcd:Int}{zce:(List yc)}{zcf zax zay:Int}{zau:(List Int)}{zav:(List Bool)}{zw zaw:(List Int)}{zaz:(List yg)}{r:yd}{zp:Int→Int→Int→Int→Int→Int→Int→Int→Int→(List yc)→Int→Int→Int→(List Int)→(List Bool)→(List Int)→(List Int)→(List yg)→Option yd}(zez:zkn zp r)(h:zii zp to0 zbw zbx zby zbz zca zcb zcc zcd zce zcf zax zay zau zav zw zaw zaz=some r):Wp Pg 24 6 (.reg none ytp) ⟨[(0,.ptr 0 0),(1,.fn (.func 30) [.ptr 0 0] []),(4,.int .i64 to0),(11,.bad),(20,.bad)],[],(hp81 zbw zbx zby zbz zca zcb zcc zcd zce zcf zau zav zw zaw zax zay zaz),7⟩ (ydl Pg 24 6 yex (yam 0 (yvh r))):=by
  unfold zii at h
  refine yh (ydk ?_)
  exact ybl [] (zez h)
theorem zth {r:yd} {zp:Int→Int→Int→Int→Int→Int→Int→Int→Int→(List yc)→Int→Int→Int→(List Int)→(List Bool)→(List Int)→(List Int)→(List yg)→Option yd}(zez:zkn zp r){to0 m_00 m_10 m_20 m_30 m_40 m_50 m_60 m_70:Int}{m_80:(List yc)}{m_90 ze zh:Int}{zd:(List Int)}{zf:(List Bool)}{zc zg:(List Int)}{zi:(List yg)}(h:zkt zp to0 m_00 m_10 m_20 m_30 m_40 m_50 m_60 m_70 m_80 m_90 ze zh zd zf zc zg zi=some r):LWp Pg 24 6 yex ⟨[(0,.ptr 0 0),(1,.fn (.func 30) [.ptr 0 0] []),(4,.int .i64 to0),(11,.bad),(20,.bad)],[],(hp81 m_00 m_10 m_20 m_30 m_40 m_50 m_60 m_70 m_80 m_90 zd zf zc zg ze zh zi),7⟩ (yam 0 (yvh r)):=by
  unfold zkt at h
  refine LWp.stepC yex.eq_1 ?_
  refine Wp.seq (Wp.seq (yh (yb ?_)))
  replace h:=ifS h; rcases h with ⟨g1,h⟩ | ⟨g1,h⟩
  ·refine yab (Wp.skip (yb (Wp.seq (Wp.block (Wp.seq ?_)))))
   refine yh (yb ?_)
   replace h:=ifS h; rcases h with ⟨g2,h⟩ | ⟨g2,h⟩
   ·refine yab (Wp.reg ?_)
    replace h:=yx h; obtain ⟨r0,g3,h⟩:=h
    refine ycy (yp (zml g3) (yf _)) (ybh (yb ?_))
    exact yt [.kill [11,20],.tidy] (zpu zez h)
   ·refine yaa (Wp.skip (ybh (yb ?_)))
    exact yt [.kill [11,20]] (zpu zez h)
  ·replace h:=yah h; subst h
   refine yaa (Wp.out (ydy (ydi (ycn ?_))))
   exact ycl [.kill [0,1,4,11],.tidy]
theorem zut {r:yd}:∀ (n:Nat),zkn (zda n) r:=by
  intro n
  induction n with
  | zero=>intro to0 m_00 m_10 m_20 m_30 m_40 m_50 m_60 m_70 m_80 m_90 ze zh zd zf zc zg zi h; unfold zda at h; cases h
  | succ n ih=>intro to0 m_00 m_10 m_20 m_30 m_40 m_50 m_60 m_70 m_80 m_90 ze zh zd zf zc zg zi h; unfold zda at h; exact zth ih h
theorem zwn{m:yd}{r:yd} (h:zhl m=some r):yag Pg 29 [.ptr 0 0,.fn (.func 30) [.ptr 0 0] []] (hs63 m) 6 (.tup []) (yum r) 7:=by
  refine yag.intro Tryz.func29 ytq (yad rfl) ?_
  show Wp Pg 24 6 ymf ⟨yal _ yup,[],_,_⟩ (yvh r)
  unfold zhl at h
  unfold ymf
  refine yai [.movc 0 16] ?_
  refine Wp.seq (yh (yb (Wp.block (Wp.loop ?_))))
  exact ybl [.kill [11,20],.cell 0 12 (.virt 1),.cell 0 13 (.virt 1),.tidy] (zut _ h)
noncomputable abbrev ybzz(r:yd):Ex→St→Prop:=yay 7 [] (.tup []) (zade r) 8
theorem zqv{to0:Int}{x0:yg}{m:yd}{r:yd} (h:zef to0 x0 m=some r):yag Pg 76 [.ptr 0 0,.int .i64 to0,.agg [.int .i64 x0.yar,.int .i64 x0.yct,.int .i64 x0.From,.int .i64 x0.To,.int .i64 x0.Term,.int .i64 x0.At,.int .i64 x0.ybd,.int .i64 x0.yl,.bool x0.Ok,.nil,.nil]] (yws m) 7 (.tup []) (zade r) 8:=by
  refine yag.intro Tryz.func76 ywx (yad rfl) ?_
  show Wp Pg 24 7 ypk ⟨yal _ yzn,[],_,_⟩ (ybzz r)
  unfold zef at h
  unfold ypk
  refine yai [.movc 0 16] ?_
  refine Wp.seq (yh (yb (Wp.seq ?_)))
  refine yh (yb ?_)
  replace h:=ycw h; obtain ⟨g1,h⟩:=h
  replace h:=yah h; subst h
  refine yap [] yao (yau _) ?_
  exact ycl [.kill [0,1,2,5],.tidy]
noncomputable abbrev ydsv(r:Int):Ex→St→Prop:=yay 0 [.tmp 2] (.int .i64 r) [] 0
theorem znq{l:yz}{r:Int} (h:zfs l=some r):yag Pg 69 [.agg [.int .i64 l.yn,.int .i64 l.yi,sl yc.c l.Entries]] [] 0 (.int .i64 r) [] 0:=by
  refine yag.intro Tryz.func69 ybmo (yad rfl) ?_
  show Wp Pg 13 0 ybcf ⟨yal _ ybcg,[],_,_⟩ (ydsv r)
  unfold zfs at h
  unfold ybcf
  refine yai [] ?_
  refine Wp.seq (yh (yb (Wp.seq ?_)))
  replace h:=yx h; obtain ⟨r0,g1,h⟩:=h
  replace h:=yx h; obtain ⟨r0_1,g2,h⟩:=h
  replace h:=yah h; subst h
  refine yap [] yao (ybk 2 (yp (zbr g1) (yf _)) (ybk 3 (yp (zdq g2) (yf _)) (yau _))) (yb (Wp.seq ?_))
  refine yh (yb (Wp.ret ?_))
  exact yan
noncomputable abbrev ycaf(r:yd):Ex→St→Prop:=yay 8 [] (.tup []) (zabi r) 9
theorem zwa{to0:Int}{b1:yd}{r:yd} (h:zei to0 b1=some r):yag Pg 93 [.int .i64 to0,.ptr 0 0] (zadf b1) 8 (.tup []) (zabi r) 9:=by
  refine yag.intro Tryz.func93 yboo (yad rfl) ?_
  show Wp Pg 24 8 ybdq ⟨yal _ ybdr,[],_,_⟩ (ycaf r)
  unfold zei at h
  unfold ybdq
  refine yai [] ?_
  replace h:=yx h; obtain ⟨r0,g1,h⟩:=h
  replace h:=yx h; obtain ⟨r0_1,g2,h⟩:=h
  replace h:=yx h; obtain ⟨r0_2,g3,h⟩:=h
  replace h:=yah h; subst h
  refine yap [76] yao (ybk 12 (yp (zbr g1) (yf _)) (ybk 18 (yp (znq g2) (yf _)) (ybk 20 (yp (zqv g3) (yf _)) (yau _)))) ?_
  exact ycl [.kill [0,1],.tidy]
noncomputable abbrev yvi(r:yd):Ex→St→Prop:=yay 8 [] (.tup []) (zabj r) 9
noncomputable abbrev zko (rec0:Int→Int→Int→Int→Int→Int→Int→Int→Int→Int→Int→Int→(List yc)→(List Int)→(List Bool)→(List Int)→(List Int)→(List yg)→Option yd)(r:yd):Prop:=∀ {to0 m_00 m_10 m_20 m_30 m_40 m_50 m_60 m_70 m_90 ze zh:Int} {m_80:(List yc)} {zd:(List Int)} {zf:(List Bool)} {zc zg:(List Int)} {zi:(List yg)},rec0 to0 m_00 m_10 m_20 m_30 m_40 m_50 m_60 m_70 m_90 ze zh m_80 zd zf zc zg zi=some r→LWp Pg 24 8 yex ⟨[(0,.ptr 0 0),(1,.fn (.func 93) [] [.ptr 7 0]),(4,.int .i64 to0),(11,.bad),(20,.bad)],[],(hp87 m_00 m_10 m_20 m_30 m_40 m_50 m_60 m_70 m_80 m_90 zd zf zc zg ze zh zi),9⟩ (yam 0 (yvi r))
theorem zpv{to0 zbw zbx zby zbz zca zcb zcc zcd zcf zax zay:Int}{zce:(List yc)}{zau:(List Int)}{zav:(List Bool)}{zw zaw:(List Int)}{zaz:(List yg)}{r:yd}{zq:Int→Int→Int→Int→Int→Int→Int→Int→Int→Int→Int→Int→(List yc)→(List Int)→(List Bool)→(List Int)→(List Int)→(List yg)→Option yd}(zfa:zko zq r)(h:zij zq to0 zbw zbx zby zbz zca zcb zcc zcd zcf zax zay zce zau zav zw zaw zaz=some r):Wp Pg 24 8 (.reg none ytp) ⟨[(0,.ptr 0 0),(1,.fn (.func 93) [] [.ptr 7 0]),(4,.int .i64 to0),(11,.bad),(20,.bad)],[],(hp87 zbw zbx zby zbz zca zcb zcc zcd zce zcf zau zav zw zaw zax zay zaz),9⟩ (ydl Pg 24 8 yex (yam 0 (yvi r))):=by
  unfold zij at h
  refine yh (ydk ?_)
  exact ybl [] (zfa h)
theorem zti {r:yd} {zq:Int→Int→Int→Int→Int→Int→Int→Int→Int→Int→Int→Int→(List yc)→(List Int)→(List Bool)→(List Int)→(List Int)→(List yg)→Option yd}(zfa:zko zq r){to0 m_00 m_10 m_20 m_30 m_40 m_50 m_60 m_70 m_90 ze zh:Int}{m_80:(List yc)}{zd:(List Int)}{zf:(List Bool)}{zc zg:(List Int)}{zi:(List yg)}(h:zku zq to0 m_00 m_10 m_20 m_30 m_40 m_50 m_60 m_70 m_90 ze zh m_80 zd zf zc zg zi=some r):LWp Pg 24 8 yex ⟨[(0,.ptr 0 0),(1,.fn (.func 93) [] [.ptr 7 0]),(4,.int .i64 to0),(11,.bad),(20,.bad)],[],(hp87 m_00 m_10 m_20 m_30 m_40 m_50 m_60 m_70 m_80 m_90 zd zf zc zg ze zh zi),9⟩ (yam 0 (yvi r)):=by
  unfold zku at h
  refine LWp.stepC yex.eq_1 ?_
  refine Wp.seq (Wp.seq (yh (yb ?_)))
  replace h:=ifS h; rcases h with ⟨g1,h⟩ | ⟨g1,h⟩
  ·refine yab (Wp.skip (yb (Wp.seq (Wp.block (Wp.seq ?_)))))
   refine yh (yb ?_)
   replace h:=ifS h; rcases h with ⟨g2,h⟩ | ⟨g2,h⟩
   ·refine yab (Wp.reg ?_)
    replace h:=yx h; obtain ⟨r0,g3,h⟩:=h
    refine ycy (yp (zwa g3) (yf _)) (ybh (yb ?_))
    exact yt [.kill [11,20],.tidy] (zpv zfa h)
   ·refine yaa (Wp.skip (ybh (yb ?_)))
    exact yt [.kill [11,20]] (zpv zfa h)
  ·replace h:=yah h; subst h
   refine yaa (Wp.out (ydy (ydi (ycn ?_))))
   exact ycl [.cell 0 11 (.virt 1),.kill [0,1,4,11],.tidy]
theorem zuu {r:yd}:∀ (n:Nat),zko (zdb n) r:=by
  intro n
  induction n with
  | zero=>intro to0 m_00 m_10 m_20 m_30 m_40 m_50 m_60 m_70 m_90 ze zh m_80 zd zf zc zg zi h; unfold zdb at h; cases h
  | succ n ih=>intro to0 m_00 m_10 m_20 m_30 m_40 m_50 m_60 m_70 m_90 ze zh m_80 zd zf zc zg zi h; unfold zdb at h; exact zti ih h
theorem zrj{m:yd}{r:yd} (h:zhm m=some r):yag Pg 29 [.ptr 0 0,.fn (.func 93) [] [.ptr 7 0]] (hs87 m) 8 (.tup []) (zabj r) 9:=by
  refine yag.intro Tryz.func29 ytq (yad rfl) ?_
  show Wp Pg 24 8 ymf ⟨yal _ yup,[],_,_⟩ (yvi r)
  unfold zhm at h
  unfold ymf
  refine yai [.movc 0 16] ?_
  refine Wp.seq (yh (yb (Wp.block (Wp.loop ?_))))
  exact ybl [.kill [11,20],.tidy] (zuu _ h)
noncomputable abbrev ycac(r:yd):Ex→St→Prop:=yay 8 [] (.tup []) (zabi r) 9
theorem zxj{to0:Int}{b1:yd}{r:yd} (h:zfz to0 b1=some r):yag Pg 78 [.int .i64 to0,.ptr 0 0] (zadf b1) 8 (.tup []) (zabi r) 9:=by
  refine yag.intro Tryz.func78 ybnk (yad rfl) ?_
  show Wp Pg 25 8 ybcw ⟨yal _ ybcx,[],_,_⟩ (ycac r)
  unfold zfz at h
  unfold ybcw
  refine yai [] ?_
  replace h:=yx h; obtain ⟨r0,g1,h⟩:=h
  replace h:=yx h; obtain ⟨r0_1,g2,h⟩:=h
  replace h:=yx h; obtain ⟨r0_2,g3,h⟩:=h
  replace h:=yah h; subst h
  refine yap [76] yao (ybk 13 (yp (zbr g1) (yf _)) (ybk 19 (yp (znq g2) (yf _)) (ybk 21 (yp (zqv g3) (yf _)) (yau _)))) ?_
  exact ycl [.kill [0,1],.tidy]
noncomputable abbrev yvj(r:yd):Ex→St→Prop:=yay 8 [] (.tup []) (zabj r) 9
noncomputable abbrev zkp (rec0:Int→Int→Int→Int→Int→Int→Int→Int→Int→Int→Int→Int→(List yc)→(List Int)→(List Bool)→(List Int)→(List Int)→(List yg)→Option yd)(r:yd):Prop:=∀ {to0 m_00 m_10 m_20 m_30 m_40 m_50 m_60 m_70 m_90 ze zh:Int} {m_80:(List yc)} {zd:(List Int)} {zf:(List Bool)} {zc zg:(List Int)} {zi:(List yg)},rec0 to0 m_00 m_10 m_20 m_30 m_40 m_50 m_60 m_70 m_90 ze zh m_80 zd zf zc zg zi=some r→LWp Pg 24 8 yex ⟨[(0,.ptr 0 0),(1,.fn (.func 78) [] [.ptr 7 0]),(4,.int .i64 to0),(11,.bad),(20,.bad)],[],(hp87 m_00 m_10 m_20 m_30 m_40 m_50 m_60 m_70 m_80 m_90 zd zf zc zg ze zh zi),9⟩ (yam 0 (yvj r))
theorem zpw{to0 zbw zbx zby zbz zca zcb zcc zcd zcf zax zay:Int}{zce:(List yc)}{zau:(List Int)}{zav:(List Bool)}{zw zaw:(List Int)}{zaz:(List yg)}{r:yd}{zr:Int→Int→Int→Int→Int→Int→Int→Int→Int→Int→Int→Int→(List yc)→(List Int)→(List Bool)→(List Int)→(List Int)→(List yg)→Option yd}(zfb:zkp zr r)(h:zik zr to0 zbw zbx zby zbz zca zcb zcc zcd zcf zax zay zce zau zav zw zaw zaz=some r):Wp Pg 24 8 (.reg none ytp) ⟨[(0,.ptr 0 0),(1,.fn (.func 78) [] [.ptr 7 0]),(4,.int .i64 to0),(11,.bad),(20,.bad)],[],(hp87 zbw zbx zby zbz zca zcb zcc zcd zce zcf zau zav zw zaw zax zay zaz),9⟩ (ydl Pg 24 8 yex (yam 0 (yvj r))):=by
  unfold zik at h
  refine yh (ydk ?_)
  exact ybl [] (zfb h)
theorem ztj {r:yd} {zr:Int→Int→Int→Int→Int→Int→Int→Int→Int→Int→Int→Int→(List yc)→(List Int)→(List Bool)→(List Int)→(List Int)→(List yg)→Option yd}(zfb:zkp zr r){to0 m_00 m_10 m_20 m_30 m_40 m_50 m_60 m_70 m_90 ze zh:Int}{m_80:(List yc)}{zd:(List Int)}{zf:(List Bool)}{zc zg:(List Int)}{zi:(List yg)}(h:zkw zr to0 m_00 m_10 m_20 m_30 m_40 m_50 m_60 m_70 m_90 ze zh m_80 zd zf zc zg zi=some r):LWp Pg 24 8 yex ⟨[(0,.ptr 0 0),(1,.fn (.func 78) [] [.ptr 7 0]),(4,.int .i64 to0),(11,.bad),(20,.bad)],[],(hp87 m_00 m_10 m_20 m_30 m_40 m_50 m_60 m_70 m_80 m_90 zd zf zc zg ze zh zi),9⟩ (yam 0 (yvj r)):=by
  unfold zkw at h
  refine LWp.stepC yex.eq_1 ?_
  refine Wp.seq (Wp.seq (yh (yb ?_)))
  replace h:=ifS h; rcases h with ⟨g1,h⟩ | ⟨g1,h⟩
  ·refine yab (Wp.skip (yb (Wp.seq (Wp.block (Wp.seq ?_)))))
   refine yh (yb ?_)
   replace h:=ifS h; rcases h with ⟨g2,h⟩ | ⟨g2,h⟩
   ·refine yab (Wp.reg ?_)
    replace h:=yx h; obtain ⟨r0,g3,h⟩:=h
    refine ycy (yp (zxj g3) (yf _)) (ybh (yb ?_))
    exact yt [.kill [11,20],.tidy] (zpw zfb h)
   ·refine yaa (Wp.skip (ybh (yb ?_)))
    exact yt [.kill [11,20]] (zpw zfb h)
  ·replace h:=yah h; subst h
   refine yaa (Wp.out (ydy (ydi (ycn ?_))))
   exact ycl [.cell 0 11 (.virt 1),.kill [0,1,4,11],.tidy]
theorem zuv {r:yd}:∀ (n:Nat),zkp (zdc n) r:=by
  intro n
  induction n with
  | zero=>intro to0 m_00 m_10 m_20 m_30 m_40 m_50 m_60 m_70 m_90 ze zh m_80 zd zf zc zg zi h; unfold zdc at h; cases h
  | succ n ih=>intro to0 m_00 m_10 m_20 m_30 m_40 m_50 m_60 m_70 m_90 ze zh m_80 zd zf zc zg zi h; unfold zdc at h; exact ztj ih h
theorem zwo{m:yd}{r:yd} (h:zkv m=some r):yag Pg 29 [.ptr 0 0,.fn (.func 78) [] [.ptr 7 0]] (hs87 m) 8 (.tup []) (zabj r) 9:=by
  refine yag.intro Tryz.func29 ytq (yad rfl) ?_
  show Wp Pg 24 8 ymf ⟨yal _ yup,[],_,_⟩ (yvj r)
  unfold zkv at h
  unfold ymf
  refine yai [.movc 0 16] ?_
  refine Wp.seq (yh (yb (Wp.block (Wp.loop ?_))))
  exact ybl [.kill [11,20],.tidy] (zuv _ h)
noncomputable abbrev yvk(r:yd):Ex→St→Prop:=yay 6 [] (.tup []) (yum r) 7
noncomputable abbrev zkq (rec0:Int→Int→Int→Int→Int→Int→Int→Int→Int→(List yc)→Int→Int→Int→(List Int)→(List Bool)→(List Int)→(List Int)→(List yg)→Option yd)(r:yd):Prop:=∀ {to0 m_00 m_10 m_20 m_30 m_40 m_50 m_60 m_70:Int} {m_80:(List yc)} {m_90 ze zh:Int} {zd:(List Int)} {zf:(List Bool)} {zc zg:(List Int)} {zi:(List yg)},rec0 to0 m_00 m_10 m_20 m_30 m_40 m_50 m_60 m_70 m_80 m_90 ze zh zd zf zc zg zi=some r→LWp Pg 24 6 yex ⟨[(0,.ptr 0 0),(1,.fn (.func 30) [.ptr 0 0] []),(4,.int .i64 to0),(11,.bad),(20,.bad)],[],(hp81 m_00 m_10 m_20 m_30 m_40 m_50 m_60 m_70 m_80 m_90 zd zf zc zg ze zh zi),7⟩ (yam 0 (yvk r))
theorem zpx{to0 zbw zbx zby zbz zca zcb zcc zcd:Int}{zce:(List yc)}{zcf zax zay:Int}{zau:(List Int)}{zav:(List Bool)}{zw zaw:(List Int)}{zaz:(List yg)}{r:yd}{zt:Int→Int→Int→Int→Int→Int→Int→Int→Int→(List yc)→Int→Int→Int→(List Int)→(List Bool)→(List Int)→(List Int)→(List yg)→Option yd}(zfc:zkq zt r)(h:zil zt to0 zbw zbx zby zbz zca zcb zcc zcd zce zcf zax zay zau zav zw zaw zaz=some r):Wp Pg 24 6 (.reg none ytp) ⟨[(0,.ptr 0 0),(1,.fn (.func 30) [.ptr 0 0] []),(4,.int .i64 to0),(11,.bad),(20,.bad)],[],(hp81 zbw zbx zby zbz zca zcb zcc zcd zce zcf zau zav zw zaw zax zay zaz),7⟩ (ydl Pg 24 6 yex (yam 0 (yvk r))):=by
  unfold zil at h
  refine yh (ydk ?_)
  exact ybl [] (zfc h)
theorem ztk {r:yd} {zt:Int→Int→Int→Int→Int→Int→Int→Int→Int→(List yc)→Int→Int→Int→(List Int)→(List Bool)→(List Int)→(List Int)→(List yg)→Option yd}(zfc:zkq zt r){to0 m_00 m_10 m_20 m_30 m_40 m_50 m_60 m_70:Int}{m_80:(List yc)}{m_90 ze zh:Int}{zd:(List Int)}{zf:(List Bool)}{zc zg:(List Int)}{zi:(List yg)}(h:zkx zt to0 m_00 m_10 m_20 m_30 m_40 m_50 m_60 m_70 m_80 m_90 ze zh zd zf zc zg zi=some r):LWp Pg 24 6 yex ⟨[(0,.ptr 0 0),(1,.fn (.func 30) [.ptr 0 0] []),(4,.int .i64 to0),(11,.bad),(20,.bad)],[],(hp81 m_00 m_10 m_20 m_30 m_40 m_50 m_60 m_70 m_80 m_90 zd zf zc zg ze zh zi),7⟩ (yam 0 (yvk r)):=by
  unfold zkx at h
  refine LWp.stepC yex.eq_1 ?_
  refine Wp.seq (Wp.seq (yh (yb ?_)))
  replace h:=ifS h; rcases h with ⟨g1,h⟩ | ⟨g1,h⟩
  ·refine yab (Wp.skip (yb (Wp.seq (Wp.block (Wp.seq ?_)))))
   refine yh (yb ?_)
   replace h:=ifS h; rcases h with ⟨g2,h⟩ | ⟨g2,h⟩
   ·refine yab (Wp.reg ?_)
    replace h:=yx h; obtain ⟨r0,g3,h⟩:=h
    refine ycy (yp (zml g3) (yf _)) (ybh (yb ?_))
    exact yt [.kill [11,20],.tidy] (zpx zfc h)
   ·refine yaa (Wp.skip (ybh (yb ?_)))
    exact yt [.kill [11,20]] (zpx zfc h)
  ·replace h:=yah h; subst h
   refine yaa (Wp.out (ydy (ydi (ycn ?_))))
   exact ycl [.kill [0,1,4,11],.tidy]
theorem zuw {r:yd}:∀ (n:Nat),zkq (zdd n) r:=by
  intro n
  induction n with
  | zero=>intro to0 m_00 m_10 m_20 m_30 m_40 m_50 m_60 m_70 m_80 m_90 ze zh zd zf zc zg zi h; unfold zdd at h; cases h
  | succ n ih=>intro to0 m_00 m_10 m_20 m_30 m_40 m_50 m_60 m_70 m_80 m_90 ze zh zd zf zc zg zi h; unfold zdd at h; exact ztk ih h
theorem zwp{m:yd}{r:yd} (h:zhn m=some r):yag Pg 29 [.ptr 0 0,.fn (.func 30) [.ptr 0 0] []] (yun m) 6 (.tup []) (yum r) 7:=by
  refine yag.intro Tryz.func29 ytq (yad rfl) ?_
  show Wp Pg 24 6 ymf ⟨yal _ yup,[],_,_⟩ (yvk r)
  unfold zhn at h
  unfold ymf
  refine yai [.movc 0 16] ?_
  refine Wp.seq (yh (yb (Wp.block (Wp.loop ?_))))
  exact ybl [.kill [11,20],.tidy] (zuw _ h)
noncomputable abbrev yaqq(r:yd):Ex→St→Prop:=yay 7 [] (.tup []) (yqz r) 8
theorem zqy{to0:Int}{m:yd}{x_0 x_5 x_6:Int}{x_9:(List yc)}{x_10:(List Int)}{r:yd} (h:zjt to0 m x_0 x_5 x_6 x_9 x_10=some r):Wp Pg 84 7 (.reg none yaok) ⟨[(0,.ptr 0 0),(1,.int .i64 to0),(4,.bad),(5,.ptr 8 0),(33,.bad)],[],(hs32 m x_0 (0:Int) (0:Int) (0:Int) x_5 x_6 x_9 x_10),10⟩ (yaqq r):=by
  unfold zjt at h
  refine Wp.reg ?_
  replace h:=yx h; obtain ⟨r0_2,g6,h⟩:=h
  replace h:=yah h; subst h
  refine ycy (yp (zse g6) (yf _)) ?_
  exact ycl [.kill [0,1,5],.drop [1],.tidy]
theorem zya{to0:Int}{m:yd}{r:yd} (h:zgo to0 m=some r):yag Pg 30 [.ptr 0 0,.int .i64 to0] (hs9 m) 7 (.tup []) (yqz r) 8:=by
  refine yag.intro Tryz.func30 yaol (yad rfl) ?_
  show Wp Pg 84 7 yadz ⟨yal _ yajq,[],_,_⟩ (yaqq r)
  unfold zgo at h
  unfold yadz
  refine yai [.movc 0 16] ?_
  refine Wp.seq ?_
  replace h:=yx h; obtain ⟨e,g1,h⟩:=h
  have:=ycr (n:=1) (id:=4) (ex:=false) (k:=.i64) g1 rfl
  have:=ydw (c:=(ci .i64)) g1
  refine yh (yb (Wp.seq ?_))
  refine yap [] yao (yau _) (yb (Wp.seq (Wp.seq ?_)))
  refine yh (yb ?_)
  replace h:=ifS h; rcases h with ⟨g2,h⟩ | ⟨g2,h⟩
  ·refine yab ?_
   replace h:=ycw h; obtain ⟨g3,h⟩:=h
   refine yap [] yao (yau _) (yb ?_)
   exact yt [.kill [4,33],.cell 5 9 .frz,.cell 0 8 .frz,.tidy] (zqy h)
  ·refine yaa (Wp.seq ?_)
   refine yh (yb (Wp.seq ?_))
   replace h:=yx h; obtain ⟨r0,g4,h⟩:=h
   refine yap [] yao (ybk 7 (yp (zdq g4) (yf _)) (yau _)) (yb (Wp.reg ?_))
   replace h:=yx h; obtain ⟨r0_1,g5,h⟩:=h
   refine yaq 7 (yp (zyk g5) (yf _)) ?_
   refine yak (yf _) (yb ?_)
   exact yt [.kill [4,33],.cell 5 10 (.virt 1),.cell 0 8 .frz,.tidy] (zqy h)
noncomputable abbrev yaqs(r:yd):Ex→St→Prop:=yay 7 [] (.tup []) (zabk r) 10
theorem zpy{lead:Int}{m:yd}{m_20 m_30:Int}{r:yd} (h:zfm lead m m_20 m_30=some r):Wp Pg 43 7 (.seq (.reg none yaoq) (.reg none yaor)) ⟨[(0,.ptr 0 0),(1,.bad),(2,.int .i64 lead),(12,.bad)],[],(hs59 m m_20 m_30),7⟩ (yaqs r):=by
  unfold zfm at h
  replace h:=yah h; subst h
  refine Wp.seq (yh (yb ?_))
  refine yh ?_
  exact ycl [.cell 0 11 (.virt 1),.cell 0 12 (.virt 1),.cell 0 13 (.virt 1),.kill [0,2],.drop [3,4,5],.tidy]
theorem zgf{term:Int}{lead:Int}{m:yd}{r:yd} (h:zat term lead m=some r):yag Pg 51 [.ptr 0 0,.int .i64 term,.int .i64 lead] (hs9 m) 7 (.tup []) (zabk r) 10:=by
  refine yag.intro Tryz.func51 yaos (yad rfl) ?_
  show Wp Pg 43 7 yaeg ⟨yal _ yajv,[],_,_⟩ (yaqs r)
  unfold zat at h
  unfold yaeg
  refine yai [] ?_
  refine Wp.seq (Wp.seq (yh (yb ?_)))
  replace h:=ifS h; rcases h with ⟨g1,h⟩ | ⟨g1,h⟩
  ·refine yab ?_
   refine yh (yb ?_)
   exact yt [.kill [1,12]] (zpy h)
  ·refine yaa (Wp.skip (yb ?_))
   exact yt [.kill [1,12]] (zpy h)
noncomputable abbrev ydme(r:Int):Ex→St→Prop:=yay 0 [.tmp 2] (.int .i64 r) [] 0
theorem zub{n0:Int}{r:Int} (h:zjs n0=some r):yag Pg 109 [.int .i64 n0] [] 0 (.int .i64 r) [] 0:=by
  refine yag.intro Tryz.func109 yava (yad rfl) ?_
  show Wp Pg 8 0 yand ⟨yal _ yane,[],_,_⟩ (ydme r)
  unfold zjs at h
  unfold yand
  refine yai [] ?_
  refine Wp.seq (yh (yb (Wp.seq (Wp.seq ?_))))
  refine yh (yb ?_)
  replace h:=ifS h; rcases h with ⟨g1,h⟩ | ⟨g1,h⟩
  ·replace h:=yah h; subst h
   refine yab (Wp.seq ?_)
   refine yh (yb (Wp.ret (yax ?_)))
   exact yan
  ·replace h:=yah h; subst h
   refine yaa (Wp.skip (yb (Wp.seq ?_)))
   refine yh (yb (Wp.ret ?_))
   exact yan
noncomputable abbrev yake(r:Bool):Ex→St→Prop:=yay 0 [.tmp 2] (.bool r) [] 0
noncomputable abbrev ztq(l:(List Bool))(rec0:Int→Int→Option Bool)(r:Bool):Prop:=∀ {n0 v8:Int},rec0 n0 v8=some r→LWp Pg 26 0 yaev ⟨[(0,sl cb l),(2,.bad),(3,.int .i64 n0),(5,.bad),(6,sl cb l),(7,.int .i64 (l.length:Int)),(8,.int .i64 v8),(9,.bad),(12,.bad)],[],[],0⟩ (yam 0 (yav Pg 26 0 (.seq (.reg none yaew) .ret) (yake r)))
theorem zaak{l:(List Bool)}{n0_1:Int}{r:Bool} (h:zpr l n0_1=some r):Wp Pg 26 0 (.seq (.reg none yaew) .ret) ⟨[(0,sl cb l),(2,.bad),(3,.int .i64 n0_1),(5,.bad),(6,.bad),(7,.bad),(8,.bad),(9,.bad),(12,.bad)],[],[],0⟩ (yake r):=by
  unfold zpr at h
  refine Wp.seq (Wp.reg ?_)
  replace h:=ifS h; rcases h with ⟨g4,h⟩ | ⟨g4,h⟩
  ·replace h:=yx h; obtain ⟨r0,g5,h⟩:=h
   replace h:=yah h; subst h
   refine yaq 8 (yp (zub g5) (yf _)) ?_
   refine yak (yf _) (yb (Wp.ret ?_))
   exact yan
  ·replace h:=yah h; subst h
   refine yak (yf _) (yb (Wp.ret ?_))
   exact yan
theorem zyr{l:(List Bool)}{r:Bool} {ziq:Int→Int→Option Bool}(zrw:ztq l ziq r){n0 v8:Int}(h:zkg l ziq n0 v8=some r):LWp Pg 26 0 yaev ⟨[(0,sl cb l),(2,.bad),(3,.int .i64 n0),(5,.bad),(6,sl cb l),(7,.int .i64 (l.length:Int)),(8,.int .i64 v8),(9,.bad),(12,.bad)],[],[],0⟩ (yam 0 (yav Pg 26 0 (.seq (.reg none yaew) .ret) (yake r))):=by
  unfold zkg at h
  refine LWp.stepC yaev.eq_1 ?_
  refine Wp.seq (yh (yb (Wp.seq ?_)))
  replace h:=ifS h; rcases h with ⟨g1,h⟩ | ⟨g1,h⟩
  ·refine yab (Wp.skip (yb (Wp.seq (Wp.block (Wp.seq ?_)))))
   replace h:=yx h; obtain ⟨e,g2,h⟩:=h
   refine yh (yb (Wp.seq ?_))
   refine yh (yb ?_)
   replace h:=ifS h; rcases h with ⟨g3,h⟩ | ⟨g3,h⟩
   ·refine yab ?_
    refine yh (ybh (yb ?_))
    refine yh (ydk ?_)
    exact ybl [.kill [5,9,12]] (zrw h)
   ·refine yaa (Wp.skip (ybh (yb ?_)))
    refine yh (ydk ?_)
    exact ybl [.kill [5,9,12]] (zrw h)
  ·refine yaa (Wp.out (ydy (ydi (ycn (yb ?_)))))
   exact yt [.kill [6,7,8,9]] (zaak h)
theorem zaal{l:(List Bool)}{r:Bool}:∀ (n:Nat),ztq l (zft l n) r:=by
  intro n
  induction n with
  | zero=>intro n0 v8 h; unfold zft at h; cases h
  | succ n ih=>intro n0 v8 h; unfold zft at h; exact zyr ih h
theorem zxi{l:(List Bool)}{r:Bool} (h:znw l=some r):yag Pg 92 [sl cb l] [] 0 (.bool r) [] 0:=by
  refine yag.intro Tryz.func92 ybon (yad rfl) ?_
  show Wp Pg 26 0 ybdo ⟨yal _ ybdp,[],_,_⟩ (yake r)
  unfold znw at h
  unfold ybdo
  refine yai [] ?_
  refine Wp.seq (yh (yb (Wp.seq ?_)))
  refine yh (yb (Wp.seq (Wp.seq ?_)))
  refine yh (yb (Wp.block (Wp.loop ?_)))
  exact ybl [.kill [2,5,9,12]] (zaal _ h)
noncomputable abbrev ybzs(r:(Bool × yd)):Ex→St→Prop:=yay 7 [.tmp 4] (.bool r.1) (yws r.2) 7
theorem zof{who:Int}{m:yd}{r:(Bool × yd)} (h:zbt who m=some r):yag Pg 53 [.ptr 0 0,.int .i64 who] (yws m) 7 (.bool r.1) (yws r.2) 7:=by
  refine yag.intro Tryz.func53 yaow (yad rfl) ?_
  show Wp Pg 19 7 yaei ⟨yal _ yajw,[],_,_⟩ (ybzs r)
  unfold zbt at h
  unfold yaei
  refine yai [] ?_
  refine Wp.seq (yh (yb (Wp.seq ?_)))
  replace h:=yx h; obtain ⟨e,g1,h⟩:=h
  have:=ycr (n:=1) (id:=3) (ex:=true) (k:=.i64) g1 rfl
  have:=ydw (c:=cb) g1
  have:=ygk cb m.ya.ym (IntKind.i64.wrap (who - (1:Int))) true
  try simp only [EV,EVt, *] at this
  refine yh (yb (Wp.seq (Wp.reg ?_)))
  replace h:=yx h; obtain ⟨r0,g2,h⟩:=h
  replace h:=yah h; subst h
  refine yaq 6 (yp (zxi g2) (yf _)) ?_
  refine yak (yf _) (yb (Wp.ret ?_))
  exact ycl [.kill [0,1],.tidy]
noncomputable abbrev yaqt(r:yd):Ex→St→Prop:=yay 7 [] (.tup []) (zabk r) 10
theorem zoe{lead:Int}{m:yd}{m_20 m_30:Int}{r:yd} (h:zgg lead m m_20 m_30=some r):Wp Pg 43 7 (.seq (.reg none yaoq) (.reg none yaor)) ⟨[(0,.ptr 0 0),(1,.bad),(2,.int .i64 lead),(12,.bad)],[],(hs60 m m_20 m_30),7⟩ (yaqt r):=by
  unfold zgg at h
  replace h:=yah h; subst h
  refine Wp.seq (yh (yb ?_))
  refine yh ?_
  exact ycl [.cell 0 11 (.virt 1),.cell 0 12 (.virt 1),.cell 0 13 (.virt 1),.kill [0,2],.drop [3,4,5],.tidy]
theorem zpz{term:Int}{lead:Int}{m:yd}{r:yd} (h:zdf term lead m=some r):yag Pg 51 [.ptr 0 0,.int .i64 term,.int .i64 lead] (yws m) 7 (.tup []) (zabk r) 10:=by
  refine yag.intro Tryz.func51 yaos (yad rfl) ?_
  show Wp Pg 43 7 yaeg ⟨yal _ yajv,[],_,_⟩ (yaqt r)
  unfold zdf at h
  unfold yaeg
  refine yai [] ?_
  refine Wp.seq (Wp.seq (yh (yb ?_)))
  replace h:=ifS h; rcases h with ⟨g1,h⟩ | ⟨g1,h⟩
  ·refine yab ?_
   refine yh (yb ?_)
   exact yt [.kill [1,12]] (zoe h)
  ·refine yaa (Wp.skip (yb ?_))
   exact yt [.kill [1,12]] (zoe h)
noncomputable abbrev ybrj(r:(Int × Bool)):Ex→St→Prop:=yay 0 [.tmp 4,.tmp 5] (.tup [.int .i64 r.1,.bool r.2]) [] 0
theorem zru{l:(List Int)}{n0:Int}{v15:Bool}{r:(Int × Bool)} (h:zip l n0 v15=some r):Wp Pg 28 0 (.cond (.t 15) (.seq (.reg none yavg) .ret) .skip) ⟨[(0,sl (ci .i64) l),(1,.int .i64 n0),(4,.bad),(5,.bad),(6,.int .i64 (0:Int)),(7,.bad),(15,.bool v15)],[],[],0⟩ (yav Pg 28 0 (.seq (.reg none yavh) (.seq (.reg none yavi) (.seq (.reg none yavj) .ret))) (ybrj r)):=by
  unfold zip at h
  replace h:=ifS h; rcases h with ⟨g2,h⟩ | ⟨g2,h⟩
  ·replace h:=yah h; subst h
   refine yab (Wp.seq ?_)
   refine yh (yb (Wp.ret (yax ?_)))
   exact yan
  ·refine yaa (Wp.skip (yb (Wp.seq ?_)))
   replace h:=ycw h; obtain ⟨g3,h⟩:=h
   refine yh (yb (Wp.seq (Wp.reg ?_)))
   replace h:=yx h; obtain ⟨r0,g4,h⟩:=h
   replace h:=ycw h; obtain ⟨g5,h⟩:=h
   have:=of_decide_eq_true g5
   refine ycy (yp (zwc g4) (yf _)) (yb (Wp.seq ?_))
   replace h:=yx h; obtain ⟨e,g6,h⟩:=h
   replace h:=yah h; subst h
   have:=ycr (n:=1) (id:=0) (ex:=false) (k:=.i64) g6 rfl
   try simp only [EV,EVt, *] at this
   have:=ydw (c:=(ci .i64)) g6
   refine yh (yb (Wp.ret ?_))
   exact yan
theorem zzp{l:(List Int)}{n0:Int}{r:(Int × Bool)} (h:zom l n0=some r):yag Pg 113 [sl (ci .i64) l,.int .i64 n0] [] 0 (.tup [.int .i64 r.1,.bool r.2]) [] 0:=by
  refine yag.intro Tryz.func113 yavk (yad rfl) ?_
  show Wp Pg 28 0 yanm ⟨yal _ yann,[],_,_⟩ (ybrj r)
  unfold zom at h
  unfold yanm
  refine yai [] ?_
  refine Wp.seq (yh (yb (Wp.seq ?_)))
  refine yh (yb (Wp.seq (Wp.seq ?_)))
  replace h:=ifS h; rcases h with ⟨g1,h⟩ | ⟨g1,h⟩
  ·refine yh (yb ?_)
   exact yt [.kill [4,5,7]] (zru h)
  ·refine yh (yb ?_)
   exact yt [.kill [4,5,7]] (zru h)
noncomputable abbrev ydmc(r:Int):Ex→St→Prop:=yay 0 [.tmp 2] (.int .i64 r) [] 0
theorem zqh{l:(List Int)}{r:Int} (h:zen l=some r):yag Pg 107 [sl (ci .i64) l] [] 0 (.int .i64 r) [] 0:=by
  refine yag.intro Tryz.func107 yauy (yad rfl) ?_
  show Wp Pg 14 0 yamz ⟨yal _ yana,[],_,_⟩ (ydmc r)
  unfold zen at h
  unfold yamz
  refine yai [] ?_
  refine Wp.seq (yh (yb (Wp.seq (Wp.reg ?_))))
  replace h:=yx h; obtain ⟨r0,g1,h⟩:=h
  refine yaq 4 (yp (zub g1) (yf _)) ?_
  replace h:=yx h; obtain ⟨r0_1,g2,h⟩:=h
  replace h:=yah h; subst h
  refine yaq 1 (yp (zzp g2) (yf _)) ?_
  refine yak (yf _) (yb (Wp.seq ?_))
  refine yh (yb (Wp.ret ?_))
  exact yan
noncomputable abbrev yaqw(r:yd):Ex→St→Prop:=yay 6 [] (.tup []) (hs63 r) 6
theorem zld{m:yd}{r0:Int}{v39:Bool}{r:yd} (h:zde m r0 v39=some r):Wp Pg 45 6 (.cond (.t 39) (.reg none yaep) .skip) ⟨[(0,.ptr 0 0),(2,.int .i64 r0),(3,.bad),(4,.bad),(39,.bool v39)],[],(hs63 m),6⟩ (yaqw r):=by
  unfold zde at h
  replace h:=ifS h; rcases h with ⟨g5,h⟩ | ⟨g5,h⟩
  ·replace h:=yah h; subst h
   refine yab ?_
   refine yh ?_
   exact ycl [.kill [0,2,39],.tidy]
  ·replace h:=yah h; subst h
   refine yaa (Wp.skip ?_)
   exact ycl [.kill [0,2,39],.tidy]
theorem zwq{m:yd}{r:yd} (h:zfg m=some r):yag Pg 80 [.ptr 0 0] (hs63 m) 6 (.tup []) (hs63 r) 6:=by
  refine yag.intro Tryz.func80 yaer (yad rfl) ?_
  show Wp Pg 45 6 yuq ⟨yal _ yaeq,[],_,_⟩ (yaqw r)
  unfold zfg at h
  unfold yuq
  refine yai [] ?_
  refine Wp.seq (Wp.reg ?_)
  replace h:=yx h; obtain ⟨r0,g1,h⟩:=h
  refine yaq 6 (yp (zqh g1) (yf _)) ?_
  refine yak (yf _) (yb (Wp.seq (Wp.reg ?_)))
  replace h:=yx h; obtain ⟨r0_1,g2,h⟩:=h
  refine yaq 7 (yp (zdq g2) (yf _)) ?_
  refine yak (yf _) (yb (Wp.seq ?_))
  replace h:=ifS h; rcases h with ⟨g3,h⟩ | ⟨g3,h⟩
  ·replace h:=ifS h; rcases h with ⟨g4,h⟩ | ⟨g4,h⟩
   ·refine yh (yb ?_)
    exact yt [.kill [3,4]] (zld h)
   ·refine yh (yb ?_)
    exact yt [.kill [3,4]] (zld h)
  ·refine yh (yb ?_)
   exact yt [.kill [3,4]] (zld h)
noncomputable abbrev ydsx(r:yz):Ex→St→Prop:=yay 0 [.cell 4 true 3] (.agg [.int .i64 r.yn,.int .i64 r.yi,sl yc.c r.Entries]) [] 0
theorem zwg{l:yz}{e:yc}{r:yz} (h:zkd l e=some r):yag Pg 79 [.agg [.int .i64 l.yn,.int .i64 l.yi,sl yc.c l.Entries],.agg [.int .i64 e.Term,sl (ci .u8) e.ybq]] [] 0 (.agg [.int .i64 r.yn,.int .i64 r.yi,sl yc.c r.Entries]) [] 0:=by
  refine yag.intro Tryz.func79 ybnl (yad rfl) ?_
  show Wp Pg 20 0 ybcy ⟨yal _ ybcz,[],_,_⟩ (ydsx r)
  unfold zkd at h
  unfold ybcy
  refine yai [] ?_
  refine Wp.seq (yh (yb (Wp.seq (Wp.reg ?_))))
  replace h:=yx h; obtain ⟨r0,g1,h⟩:=h
  refine yew 2 (yp (zkf g1) (yf _)) ?_
  refine yak (yf _) (yb (Wp.seq ?_))
  replace h:=ycw h; obtain ⟨g2,h⟩:=h
  replace h:=ycw h; obtain ⟨g3,h⟩:=h
  replace h:=yah h; subst h
  refine yap [] yao (yau _) (yb (Wp.seq ?_))
  refine yh (yb ?_)
  refine yai [.cell 4 2 .frz] (Wp.ret ?_)
  exact yan
noncomputable abbrev ybzo(r:yd):Ex→St→Prop:=yay 7 [] (.tup []) (yqz r) 8
theorem zrk{m:yd}{r:yd} (h:zff m=some r):yag Pg 33 [.ptr 0 0,.nil] (zady m) 7 (.tup []) (yqz r) 8:=by
  refine yag.intro Tryz.func33 yaon (yad rfl) ?_
  show Wp Pg 45 7 yaeb ⟨yal _ yajs,[],_,_⟩ (ybzo r)
  unfold zff at h
  unfold yaeb
  refine yai [.movc 0 16] ?_
  refine Wp.seq ?_
  replace h:=yx h; obtain ⟨r0,g1,h⟩:=h
  refine yap [] yao (ybk 13 (yp (zwg g1) (yf _)) (yau _)) (yb (Wp.seq ?_))
  replace h:=yx h; obtain ⟨r0_1,g2,h⟩:=h
  replace h:=yx h; obtain ⟨e,g3,h⟩:=h
  have:=ycr (n:=1) (id:=5) (ex:=true) (k:=.i64) g3 rfl
  have:=ydw (c:=(ci .i64)) g3
  have:=ygk (ci .i64) m.ya.yr (IntKind.i64.wrap (m.ya.Id - (1:Int))) r0_1
  try simp only [EV,EVt, *] at this
  refine yap [] yao (ybk 16 (yp (zbr g2) (yf _)) (yau _)) (yb (Wp.seq (Wp.reg ?_)))
  replace h:=yx h; obtain ⟨r0_2,g4,h⟩:=h
  refine ycy (yp (zwq g4) (yf _)) (yb (Wp.reg ?_))
  replace h:=yx h; obtain ⟨r0_3,g5,h⟩:=h
  replace h:=yah h; subst h
  refine ycy (yp (zwn g5) (yf _)) ?_
  exact ycl [.kill [0,1],.drop [1],.tidy]
noncomputable abbrev yvm(r:yd):Ex→St→Prop:=yay 7 [] (.tup []) (zqn r) 11
noncomputable abbrev zqt(r0:yd)(rec0:Int→(List Int)→Option yd)(r:yd):Prop:=∀ {v49:Int} {zc:(List Int)},rec0 v49 zc=some r→LWp Pg 69 7 yrb ⟨[(0,.ptr 0 0),(2,.bad),(48,.int .i64 ((r0.ya.N.toNat:Nat):Int)),(49,.int .i64 v49),(50,.bad)],[],(hs86 r0 (3:Int) zc (List.replicate r0.ya.N.toNat (0:Int)) (0:Int)),12⟩ (yam 0 (yav Pg 69 7 (.reg none yrc) (yvm r)))
theorem zvx{r0:yd}{zw:(List Int)}{r:yd} (h:zed r0 zw=some r):Wp Pg 69 7 (.reg none yrc) ⟨[(0,.ptr 0 0),(2,.bad),(48,.bad),(49,.bad),(50,.bad)],[],(hs86 r0 (3:Int) zw (List.replicate r0.ya.N.toNat (0:Int)) (0:Int)),12⟩ (yvm r):=by
  unfold zed at h
  refine Wp.reg ?_
  replace h:=yx h; obtain ⟨r0_2,g6,h⟩:=h
  replace h:=yah h; subst h
  refine ycy (yp (zrk g6) (yf _)) ?_
  exact ycl [.kill [0],.tidy]
theorem zva{r0:yd}{r:yd} {zhe:Int→(List Int)→Option yd}(ztm:zqt r0 zhe r){v49:Int}{zc:(List Int)}(h:zdg r0 zhe v49 zc=some r):LWp Pg 69 7 yrb ⟨[(0,.ptr 0 0),(2,.bad),(48,.int .i64 ((r0.ya.N.toNat:Nat):Int)),(49,.int .i64 v49),(50,.bad)],[],(hs86 r0 (3:Int) zc (List.replicate r0.ya.N.toNat (0:Int)) (0:Int)),12⟩ (yam 0 (yav Pg 69 7 (.reg none yrc) (yvm r))):=by
  unfold zdg at h
  refine LWp.stepC yrb.eq_1 ?_
  refine Wp.seq (yh (yb (Wp.seq ?_)))
  replace h:=ifS h; rcases h with ⟨g3,h⟩ | ⟨g3,h⟩
  ·refine yab (Wp.skip (yb (Wp.seq (Wp.block (Wp.seq ?_)))))
   refine yh (yb ?_)
   replace h:=yx h; obtain ⟨r0_1,g4,h⟩:=h
   replace h:=yx h; obtain ⟨e,g5,h⟩:=h
   have:=ycr (n:=1) (id:=9) (ex:=true) (k:=.i64) g5 rfl
   have:=ydw (c:=(ci .i64)) g5
   have:=ygk (ci .i64) zc v49 (IntKind.i64.wrap (r0_1 + (1:Int)))
   try simp only [EV,EVt, *] at this
   refine yap [] yao (ybk 11 (yp (zbr g4) (yf _)) (yau _)) (ybh (yb ?_))
   refine yh (ydk ?_)
   exact ybl [.kill [2,50],.tidy] (ztm h)
  ·refine yaa (Wp.out (ydy (ydi (ycn (yb ?_)))))
   exact yt [.kill [48,49,50]] (zvx h)
theorem zvy{r0:yd}{r:yd}:∀ (n:Nat),zqt r0 (zu r0 n) r:=by
  intro n
  induction n with
  | zero=>intro v49 zc h; unfold zu at h; cases h
  | succ n ih=>intro v49 zc h; unfold zu at h; exact zva ih h
theorem zsd{m:yd}{r:yd} (h:zcx m=some r):yag Pg 56 [.ptr 0 0] (yws m) 7 (.tup []) (zqn r) 11:=by
  refine yag.intro Tryz.func56 yaoz (yad rfl) ?_
  show Wp Pg 69 7 yaek ⟨yal _ yajy,[],_,_⟩ (yvm r)
  unfold zcx at h
  unfold yaek
  refine yai [.movc 0 11,.movc 0 12,.movc 0 13,.movc 0 16,.movc 0 8] ?_
  refine Wp.seq ?_
  replace h:=yx h; obtain ⟨r0,g1,h⟩:=h
  refine yap [51] yao (ybk 11 (yp (zpz g1) (yf _)) (yau _)) (yb (Wp.seq ?_))
  refine yh (yb (Wp.seq ?_))
  replace h:=ycw h; obtain ⟨g2,h⟩:=h
  refine yap [] yao (yau _) (yb (Wp.seq (Wp.seq ?_)))
  refine yh (yb (Wp.block (Wp.loop ?_)))
  exact ybl [.kill [2,50],.tidy] (zvy _ h)
noncomputable abbrev ybzu(r:yd):Ex→St→Prop:=yay 7 [] (.tup []) (zqn r) 11
theorem zxl{m:yd}{r:yd} (h:zgb m=some r):yag Pg 54 [.ptr 0 0] (yws m) 7 (.tup []) (zqn r) 11:=by
  refine yag.intro Tryz.func54 yaox (yad rfl) ?_
  show Wp Pg 49 7 yaej ⟨yal _ yajx,[],_,_⟩ (ybzu r)
  unfold zgb at h
  unfold yaej
  refine yai [.movc 0 11,.movc 0 12,.movc 0 13,.movc 0 16,.movc 0 8] ?_
  refine Wp.seq (yh (yb (Wp.seq ?_)))
  replace h:=yx h; obtain ⟨r0,g1,h⟩:=h
  refine yap [51] yao (ybk 7 (yp (zpz g1) (yf _)) (yau _)) (yb (Wp.seq ?_))
  refine yap [] yao (yau _) (yb (Wp.seq ?_))
  replace h:=ycw h; obtain ⟨g2,h⟩:=h
  refine yap [] yao (yau _) (yb (Wp.seq (Wp.seq ?_)))
  replace h:=yx h; obtain ⟨r0_1,g3,h⟩:=h
  refine yap [53] yao (ybk 6 (yp (zof g3) (yf _)) (yau _)) (yb ?_)
  replace h:=ifS h; rcases h with ⟨g4,h⟩ | ⟨g4,h⟩
  ·refine yab (Wp.seq (Wp.reg ?_))
   replace h:=yx h; obtain ⟨r0_2,g5,h⟩:=h
   replace h:=yah h; subst h
   refine ycy (yp (zsd g5) (yf _)) (yb (Wp.ret (yax ?_)))
   exact ycl [.kill [0,1,43],.tidy]
  ·refine yaa (Wp.skip (yb (Wp.reg ?_)))
   replace h:=yx h; obtain ⟨r0_3,g6,h⟩:=h
   replace h:=yah h; subst h
   refine ycy (yp (zrj g6) (yf _)) ?_
   exact ycl [.cell 0 8 .frz,.kill [0,1,43],.tidy]
noncomputable abbrev ydsw(r:Int):Ex→St→Prop:=yay 0 [.tmp 2] (.int .i64 r) [] 0
theorem zacq{draw:Int}{r:Int} (h:zpf draw=some r):yag Pg 77 [.int .i64 draw] [] 0 (.int .i64 r) [] 0:=by
  refine yag.intro Tryz.func77 ybnj (yad rfl) ?_
  show Wp Pg 8 0 ybcu ⟨yal _ ybcv,[],_,_⟩ (ydsw r)
  unfold zpf at h
  unfold ybcu
  refine yai [] ?_
  replace h:=yah h; subst h
  refine Wp.seq (yh (yb (Wp.seq ?_)))
  refine yh (yb (Wp.ret ?_))
  exact yan
noncomputable abbrev ybzl(r:yd):Ex→St→Prop:=yay 7 [] (.tup []) (zqn r) 11
theorem zyt{draw:Int}{m:yd}{r:yd} (h:zhy draw m=some r):yag Pg 31 [.ptr 0 0,.int .i64 draw] (hs9 m) 7 (.tup []) (zqn r) 11:=by
  refine yag.intro Tryz.func31 ybkg (yad rfl) ?_
  show Wp Pg 47 7 ybai ⟨yal _ ybaj,[],_,_⟩ (ybzl r)
  unfold zhy at h
  unfold ybai
  refine yai [.movc 0 11,.movc 0 12,.movc 0 13,.movc 0 16,.movc 0 8] ?_
  refine Wp.seq (yh (yb (Wp.seq ?_)))
  replace h:=yx h; obtain ⟨r0,g1,h⟩:=h
  refine yap [51] yao (ybk 6 (yp (zgf g1) (yf _)) (yau _)) (yb (Wp.seq ?_))
  replace h:=yx h; obtain ⟨r0_1,g2,h⟩:=h
  refine yap [] yao (ybk 4 (yp (zacq g2) (yf _)) (yau _)) (yb (Wp.seq ?_))
  replace h:=ycw h; obtain ⟨g3,h⟩:=h
  refine yap [] yao (yau _) (yb (Wp.seq (Wp.seq ?_)))
  replace h:=yx h; obtain ⟨r0_2,g4,h⟩:=h
  refine yap [53] yao (ybk 6 (yp (zof g4) (yf _)) (yau _)) (yb ?_)
  replace h:=ifS h; rcases h with ⟨g5,h⟩ | ⟨g5,h⟩
  ·refine yab (Wp.seq (Wp.reg ?_))
   replace h:=yx h; obtain ⟨r0_3,g6,h⟩:=h
   replace h:=yah h; subst h
   refine ycy (yp (zxl g6) (yf _)) (yb (Wp.ret (yax ?_)))
   exact ycl [.kill [0,1,2,41],.tidy]
  ·refine yaa (Wp.skip (yb (Wp.reg ?_)))
   replace h:=yx h; obtain ⟨r0_4,g7,h⟩:=h
   replace h:=yah h; subst h
   refine ycy (yp (zwo g7) (yf _)) ?_
   exact ycl [.cell 0 8 .frz,.kill [0,1,2,41],.tidy]
noncomputable abbrev ybzm(m:yd)(r:(ye × (List yg))):Ex→St→Prop:=yay 6 [.cell 2 true 16,.tmp 3] (.tup [.agg [.int .i64 r.1.Id,.int .i64 r.1.N,.int .i64 r.1.Term,.int .i64 r.1.yac,.int .i64 r.1.yv,.int .i64 r.1.yaf,.int .i64 r.1.yj.yn,.int .i64 r.1.yj.yi,sl yc.c r.1.yj.Entries,.int .i64 r.1.yl,.own 1 1 0 ((r.1.yy).length) false,.own 1 2 0 ((r.1.ym).length) false,.own 1 3 0 ((r.1.Next).length) false,.own 1 4 0 ((r.1.yr).length) false,.int .i64 r.1.yu,.int .i64 r.1.yae],.own 11 5 0 ((r.2).length) false]) [(0,.box [.int .i64 m.ya.Id,.int .i64 m.ya.N,.int .i64 m.ya.Term,.int .i64 m.ya.yac,.int .i64 m.ya.yv,.int .i64 m.ya.yaf,.int .i64 m.ya.yj.yn,.int .i64 m.ya.yj.yi,sl yc.c m.ya.yj.Entries,.int .i64 m.ya.yl,.own 1 1 0 ((m.ya.yy).length) false,.own 1 2 0 ((m.ya.ym).length) false,.own 1 3 0 ((m.ya.Next).length) false,.own 1 4 0 ((m.ya.yr).length) false,.int .i64 m.ya.yu,.int .i64 m.ya.yae,.own 11 5 0 ((m.f_out).length) false]),(1,.arr 1 (List.map (ci .u8) r.1.yy) 0),(2,.arr 1 (List.map cb r.1.ym) 0),(3,.arr 1 (List.map (ci .i64) r.1.Next) 0),(4,.arr 1 (List.map (ci .i64) r.1.yr) 0),(5,.arr 11 (List.map yg.c r.2) 0)] 6
theorem zon{m:yd}{r:(ye × (List yg))} (h:zjd m=some r):yag Pg 32 [.ptr 0 0] (yun m) 6 (.tup [.agg [.int .i64 r.1.Id,.int .i64 r.1.N,.int .i64 r.1.Term,.int .i64 r.1.yac,.int .i64 r.1.yv,.int .i64 r.1.yaf,.int .i64 r.1.yj.yn,.int .i64 r.1.yj.yi,sl yc.c r.1.yj.Entries,.int .i64 r.1.yl,.own 1 1 0 ((r.1.yy).length) false,.own 1 2 0 ((r.1.ym).length) false,.own 1 3 0 ((r.1.Next).length) false,.own 1 4 0 ((r.1.yr).length) false,.int .i64 r.1.yu,.int .i64 r.1.yae],.own 11 5 0 ((r.2).length) false]) [(0,.box [.int .i64 m.ya.Id,.int .i64 m.ya.N,.int .i64 m.ya.Term,.int .i64 m.ya.yac,.int .i64 m.ya.yv,.int .i64 m.ya.yaf,.int .i64 m.ya.yj.yn,.int .i64 m.ya.yj.yi,sl yc.c m.ya.yj.Entries,.int .i64 m.ya.yl,.own 1 1 0 ((m.ya.yy).length) false,.own 1 2 0 ((m.ya.ym).length) false,.own 1 3 0 ((m.ya.Next).length) false,.own 1 4 0 ((m.ya.yr).length) false,.int .i64 m.ya.yu,.int .i64 m.ya.yae,.own 11 5 0 ((m.f_out).length) false]),(1,.arr 1 (List.map (ci .u8) r.1.yy) 0),(2,.arr 1 (List.map cb r.1.ym) 0),(3,.arr 1 (List.map (ci .i64) r.1.Next) 0),(4,.arr 1 (List.map (ci .i64) r.1.yr) 0),(5,.arr 11 (List.map yg.c r.2) 0)] 6:=by
  refine yag.intro Tryz.func32 yaom (yad rfl) ?_
  show Wp Pg 12 6 yaea ⟨yal _ yajr,[],_,_⟩ (ybzm m r)
  unfold zjd at h
  unfold yaea
  refine yai [] ?_
  replace h:=yah h; subst h
  refine Wp.seq (yh (yb (Wp.seq ?_)))
  refine yap [] yao (yau _) (yb (Wp.ret ?_))
  exact ycl [.kill [0],.tidy]
noncomputable abbrev ybzn(m:yd)(r:(ye × (List yg))):Ex→St→Prop:=yay 7 [.cell 2 true 16,.tmp 3] (.tup [.agg [.int .i64 r.1.Id,.int .i64 r.1.N,.int .i64 r.1.Term,.int .i64 r.1.yac,.int .i64 r.1.yv,.int .i64 r.1.yaf,.int .i64 r.1.yj.yn,.int .i64 r.1.yj.yi,.own 2 1 0 ((r.1.yj.Entries).length) false,.int .i64 r.1.yl,.own 1 2 0 ((r.1.yy).length) false,.own 1 3 0 ((r.1.ym).length) false,.own 1 4 0 ((r.1.Next).length) false,.own 1 5 0 ((r.1.yr).length) false,.int .i64 r.1.yu,.int .i64 r.1.yae],.own 11 6 0 ((r.2).length) false]) [(0,.box [.int .i64 m.ya.Id,.int .i64 m.ya.N,.int .i64 m.ya.Term,.int .i64 m.ya.yac,.int .i64 m.ya.yv,.int .i64 m.ya.yaf,.int .i64 m.ya.yj.yn,.int .i64 m.ya.yj.yi,.own 2 1 0 ((m.ya.yj.Entries).length) false,.int .i64 m.ya.yl,.own 1 2 0 ((m.ya.yy).length) false,.own 1 3 0 ((m.ya.ym).length) false,.own 1 4 0 ((m.ya.Next).length) false,.own 1 5 0 ((m.ya.yr).length) false,.int .i64 m.ya.yu,.int .i64 m.ya.yae,.own 11 6 0 ((m.f_out).length) false]),(1,.arr 2 (List.map yc.c r.1.yj.Entries) 0),(2,.arr 1 (List.map (ci .u8) r.1.yy) 0),(3,.arr 1 (List.map cb r.1.ym) 0),(4,.arr 1 (List.map (ci .i64) r.1.Next) 0),(5,.arr 1 (List.map (ci .i64) r.1.yr) 0),(6,.arr 11 (List.map yg.c r.2) 0)] 7
theorem zvv{m:yd}{r:(ye × (List yg))} (h:znz m=some r):yag Pg 32 [.ptr 0 0] (hs9 m) 7 (.tup [.agg [.int .i64 r.1.Id,.int .i64 r.1.N,.int .i64 r.1.Term,.int .i64 r.1.yac,.int .i64 r.1.yv,.int .i64 r.1.yaf,.int .i64 r.1.yj.yn,.int .i64 r.1.yj.yi,.own 2 1 0 ((r.1.yj.Entries).length) false,.int .i64 r.1.yl,.own 1 2 0 ((r.1.yy).length) false,.own 1 3 0 ((r.1.ym).length) false,.own 1 4 0 ((r.1.Next).length) false,.own 1 5 0 ((r.1.yr).length) false,.int .i64 r.1.yu,.int .i64 r.1.yae],.own 11 6 0 ((r.2).length) false]) [(0,.box [.int .i64 m.ya.Id,.int .i64 m.ya.N,.int .i64 m.ya.Term,.int .i64 m.ya.yac,.int .i64 m.ya.yv,.int .i64 m.ya.yaf,.int .i64 m.ya.yj.yn,.int .i64 m.ya.yj.yi,.own 2 1 0 ((m.ya.yj.Entries).length) false,.int .i64 m.ya.yl,.own 1 2 0 ((m.ya.yy).length) false,.own 1 3 0 ((m.ya.ym).length) false,.own 1 4 0 ((m.ya.Next).length) false,.own 1 5 0 ((m.ya.yr).length) false,.int .i64 m.ya.yu,.int .i64 m.ya.yae,.own 11 6 0 ((m.f_out).length) false]),(1,.arr 2 (List.map yc.c r.1.yj.Entries) 0),(2,.arr 1 (List.map (ci .u8) r.1.yy) 0),(3,.arr 1 (List.map cb r.1.ym) 0),(4,.arr 1 (List.map (ci .i64) r.1.Next) 0),(5,.arr 1 (List.map (ci .i64) r.1.yr) 0),(6,.arr 11 (List.map yg.c r.2) 0)] 7:=by
  refine yag.intro Tryz.func32 yaom (yad rfl) ?_
  show Wp Pg 12 7 yaea ⟨yal _ yajr,[],_,_⟩ (ybzn m r)
  unfold znz at h
  unfold yaea
  refine yai [] ?_
  replace h:=yah h; subst h
  refine Wp.seq (yh (yb (Wp.seq ?_)))
  refine yap [] yao (yau _) (yb (Wp.ret ?_))
  exact ycl [.kill [0],.tidy]
noncomputable abbrev yaqx(r:yd):Ex→St→Prop:=yay 6 [] (.tup []) (yun r) 6
theorem ziw{m:yd}{r0:Int}{v39:Bool}{r:yd} (h:zdn m r0 v39=some r):Wp Pg 45 6 (.cond (.t 39) (.reg none yaep) .skip) ⟨[(0,.ptr 0 0),(2,.int .i64 r0),(3,.bad),(4,.bad),(39,.bool v39)],[],(yun m),6⟩ (yaqx r):=by
  unfold zdn at h
  replace h:=ifS h; rcases h with ⟨g5,h⟩ | ⟨g5,h⟩
  ·replace h:=yah h; subst h
   refine yab ?_
   refine yh ?_
   exact ycl [.kill [0,2,39],.tidy]
  ·replace h:=yah h; subst h
   refine yaa (Wp.skip ?_)
   exact ycl [.kill [0,2,39],.tidy]
theorem zuy{m:yd}{r:yd} (h:zfk m=some r):yag Pg 80 [.ptr 0 0] (yun m) 6 (.tup []) (yun r) 6:=by
  refine yag.intro Tryz.func80 yaer (yad rfl) ?_
  show Wp Pg 45 6 yuq ⟨yal _ yaeq,[],_,_⟩ (yaqx r)
  unfold zfk at h
  unfold yuq
  refine yai [] ?_
  refine Wp.seq (Wp.reg ?_)
  replace h:=yx h; obtain ⟨r0,g1,h⟩:=h
  refine yaq 6 (yp (zqh g1) (yf _)) ?_
  refine yak (yf _) (yb (Wp.seq (Wp.reg ?_)))
  replace h:=yx h; obtain ⟨r0_1,g2,h⟩:=h
  refine yaq 7 (yp (zdq g2) (yf _)) ?_
  refine yak (yf _) (yb (Wp.seq ?_))
  replace h:=ifS h; rcases h with ⟨g3,h⟩ | ⟨g3,h⟩
  ·replace h:=ifS h; rcases h with ⟨g4,h⟩ | ⟨g4,h⟩
   ·refine yh (yb ?_)
    exact yt [.kill [3,4]] (ziw h)
   ·refine yh (yb ?_)
    exact yt [.kill [3,4]] (ziw h)
  ·refine yh (yb ?_)
   exact yt [.kill [3,4]] (ziw h)
noncomputable abbrev ybzp(r:yd):Ex→St→Prop:=yay 7 [] (.tup []) (yqz r) 8
theorem zux{data:(List Int)}{m:yd}{r:yd} (h:zim data m=some r):yag Pg 33 [.ptr 0 0,sl (ci .u8) data] (hs9 m) 7 (.tup []) (yqz r) 8:=by
  refine yag.intro Tryz.func33 yaon (yad rfl) ?_
  show Wp Pg 45 7 yaeb ⟨yal _ yajs,[],_,_⟩ (ybzp r)
  unfold zim at h
  unfold yaeb
  refine yai [.movc 0 16] ?_
  refine Wp.seq ?_
  replace h:=yx h; obtain ⟨r0,g1,h⟩:=h
  refine yap [] yao (ybk 13 (yp (zwg g1) (yf _)) (yau _)) (yb (Wp.seq ?_))
  replace h:=yx h; obtain ⟨r0_1,g2,h⟩:=h
  replace h:=yx h; obtain ⟨e,g3,h⟩:=h
  have:=ycr (n:=1) (id:=5) (ex:=false) (k:=.i64) g3 rfl
  have:=ydw (c:=(ci .i64)) g3
  have:=ygk (ci .i64) m.ya.yr (IntKind.i64.wrap (m.ya.Id - (1:Int))) r0_1
  try simp only [EV,EVt, *] at this
  refine yap [] yao (ybk 16 (yp (zbr g2) (yf _)) (yau _)) (yb (Wp.seq (Wp.reg ?_)))
  replace h:=yx h; obtain ⟨r0_2,g4,h⟩:=h
  refine ycy (yp (zuy g4) (yf _)) (yb (Wp.reg ?_))
  replace h:=yx h; obtain ⟨r0_3,g5,h⟩:=h
  replace h:=yah h; subst h
  refine ycy (yp (zwp g5) (yf _)) ?_
  exact ycl [.kill [0,1],.drop [1],.tidy]
noncomputable abbrev ycaa(r:yd):Ex→St→Prop:=yay 7 [] (.tup []) (zxv r) 8
theorem zmk{to0:Int}{x0:yg}{m:yd}{r:yd} (h:zcu to0 x0 m=some r):yag Pg 76 [.ptr 0 0,.int .i64 to0,.agg [.int .i64 x0.yar,.int .i64 x0.yct,.int .i64 x0.From,.int .i64 x0.To,.int .i64 x0.Term,.int .i64 x0.At,.int .i64 x0.ybd,.int .i64 x0.yl,.bool x0.Ok,.nil,.nil]] (hs9 m) 7 (.tup []) (zxv r) 8:=by
  refine yag.intro Tryz.func76 ywx (yad rfl) ?_
  show Wp Pg 24 7 ypk ⟨yal _ yzn,[],_,_⟩ (ycaa r)
  unfold zcu at h
  unfold ypk
  refine yai [.movc 0 16] ?_
  refine Wp.seq (yh (yb (Wp.seq ?_)))
  refine yh (yb ?_)
  replace h:=ycw h; obtain ⟨g1,h⟩:=h
  replace h:=yah h; subst h
  refine yap [] yao (yau _) ?_
  exact ycl [.kill [0,1,2,5],.tidy]
noncomputable abbrev ydtb(r:Bool):Ex→St→Prop:=yay 0 [.tmp 6] (.bool r) [] 0
theorem zsw{l:yz}{term:Int}{at0:Int}{r:Bool} (h:zlp l term at0=some r):yag Pg 91 [.agg [.int .i64 l.yn,.int .i64 l.yi,sl yc.c l.Entries],.int .i64 term,.int .i64 at0] [] 0 (.bool r) [] 0:=by
  refine yag.intro Tryz.func91 ybom (yad rfl) ?_
  show Wp Pg 24 0 ybdm ⟨yal _ ybdn,[],_,_⟩ (ydtb r)
  unfold zlp at h
  unfold ybdm
  refine yai [] ?_
  refine Wp.seq (yh (yb (Wp.seq (Wp.reg ?_))))
  replace h:=yx h; obtain ⟨r0,g1,h⟩:=h
  refine yaq 2 (yp (znq g1) (yf _)) ?_
  refine yak (yf _) (yb (Wp.seq (Wp.reg ?_)))
  replace h:=ifS h; rcases h with ⟨g2,h⟩ | ⟨g2,h⟩
  ·replace h:=yah h; subst h
   refine yak (yf _) (yb (Wp.ret ?_))
   exact yan
  ·replace h:=ifS h; rcases h with ⟨g3,h⟩ | ⟨g3,h⟩
   ·replace h:=yx h; obtain ⟨r0_1,g4,h⟩:=h
    replace h:=yah h; subst h
    refine yaq 11 (yp (zbr g4) (yf _)) ?_
    refine yak (yf _) (yb (Wp.ret ?_))
    exact yan
   ·replace h:=yah h; subst h
    refine yak (yf _) (yb (Wp.ret ?_))
    exact yan
noncomputable abbrev yvl(r:yd):Ex→St→Prop:=yay 7 [] (.tup []) (zxv r) 8
theorem zqi{x0:yg}{m:yd}{ok_1:Bool}{term:Int}{r:yd} (h:zdr x0 m ok_1 term=some r):Wp Pg 67 7 (.reg none yaeh) ⟨[(0,.ptr 0 0),(1,.bad),(3,.ptr 8 0),(4,.bad),(5,.bool ok_1),(6,.int .i64 term),(57,.bad)],[],(zabh m x0),9⟩ (yvl r):=by
  unfold zdr at h
  refine Wp.reg ?_
  replace h:=yx h; obtain ⟨r0_1,g7,h⟩:=h
  replace h:=yah h; subst h
  refine ycy (yp (zmk g7) (yf _)) ?_
  exact ycl [.kill [0,3,5,6],.tidy]
theorem zlx{x0:yg}{m:yd}{ok:Bool}{r:yd} (h:zcn x0 m ok=some r):Wp Pg 67 7 (.seq (.reg none yaot) (.seq (.seq (.reg none yaou) (.cond (.t 57) (.reg none yaov) .skip)) (.reg none yaeh))) ⟨[(0,.ptr 0 0),(1,.bad),(3,.ptr 8 0),(4,.bad),(5,.bool ok),(6,.bad),(57,.bad)],[],(zabh m x0),9⟩ (yvl r):=by
  unfold zcn at h
  refine Wp.seq (yh (yb (Wp.seq (Wp.seq ?_))))
  refine yh (yb ?_)
  replace h:=ifS h; rcases h with ⟨g6,h⟩ | ⟨g6,h⟩
  ·refine yab ?_
   refine yh (yb ?_)
   exact yt [.kill [57]] (zqi h)
  ·refine yaa (Wp.skip (yb ?_))
   exact yt [.kill [57]] (zqi h)
theorem zlw{x0:yg}{m:yd}{free:Bool}{r:yd} (h:zcm x0 m free=some r):Wp Pg 67 7 (.seq (.reg (some []) ybkt) (.seq (.reg none yaot) (.seq (.seq (.reg none yaou) (.cond (.t 57) (.reg none yaov) .skip)) (.reg none yaeh)))) ⟨[(0,.ptr 0 0),(1,.bad),(3,.ptr 8 0),(4,.bool free),(5,.bad),(6,.bad),(57,.bad)],[],(zabh m x0),9⟩ (yvl r):=by
  unfold zcm at h
  refine Wp.seq ?_
  replace h:=ifS h; rcases h with ⟨g3,h⟩ | ⟨g3,h⟩
  ·replace h:=ifS h; rcases h with ⟨g4,h⟩ | ⟨g4,h⟩
   ·replace h:=yx h; obtain ⟨r0,g5,h⟩:=h
    refine yap [] yao (ybk 21 (yp (zsw g5) (yf _)) (yau _)) (yb ?_)
    exact yt [.kill [4],.tidy] (zlx h)
   ·refine yap [] yao (yau _) (yb ?_)
    exact yt [.kill [4],.tidy] (zlx h)
  ·refine yap [] yao (yau _) (yb ?_)
   exact yt [.kill [4],.tidy] (zlx h)
theorem zxk{x0:yg}{m:yd}{r:yd} (h:zga x0 m=some r):yag Pg 52 [.ptr 0 0,.agg [.int .i64 x0.yar,.int .i64 x0.yct,.int .i64 x0.From,.int .i64 x0.To,.int .i64 x0.Term,.int .i64 x0.At,.int .i64 x0.ybd,.int .i64 x0.yl,.bool x0.Ok,sl yc.c x0.Entries,sl (ci .u8) x0.ybq]] (hs9 m) 7 (.tup []) (zxv r) 8:=by
  refine yag.intro Tryz.func52 ybku (yad rfl) ?_
  show Wp Pg 67 7 ybbd ⟨yal _ ybbe,[],_,_⟩ (yvl r)
  unfold zga at h
  unfold ybbd
  refine yai [.movc 0 16] ?_
  refine Wp.seq (yh (yb (Wp.seq ?_)))
  replace h:=ifS h; rcases h with ⟨g1,h⟩ | ⟨g1,h⟩
  ·replace h:=ifS h; rcases h with ⟨g2,h⟩ | ⟨g2,h⟩
   ·refine yh (yb ?_)
    exact yt [.kill [1,5,6,57],.tidy] (zlw h)
   ·refine yh (yb ?_)
    exact yt [.kill [1,5,6,57],.tidy] (zlw h)
  ·refine yh (yb ?_)
   exact yt [.kill [1,5,6,57],.tidy] (zlw h)
noncomputable abbrev ybzt(r:(Bool × yd)):Ex→St→Prop:=yay 7 [.tmp 4] (.bool r.1) (hs9 r.2) 7
theorem zqj{who:Int}{m:yd}{r:(Bool × yd)} (h:zco who m=some r):yag Pg 53 [.ptr 0 0,.int .i64 who] (hs9 m) 7 (.bool r.1) (hs9 r.2) 7:=by
  refine yag.intro Tryz.func53 yaow (yad rfl) ?_
  show Wp Pg 19 7 yaei ⟨yal _ yajw,[],_,_⟩ (ybzt r)
  unfold zco at h
  unfold yaei
  refine yai [] ?_
  refine Wp.seq (yh (yb (Wp.seq ?_)))
  replace h:=yx h; obtain ⟨e,g1,h⟩:=h
  have:=ycr (n:=1) (id:=3) (ex:=false) (k:=.i64) g1 rfl
  have:=ydw (c:=cb) g1
  have:=ygk cb m.ya.ym (IntKind.i64.wrap (who - (1:Int))) true
  try simp only [EV,EVt, *] at this
  refine yh (yb (Wp.seq (Wp.reg ?_)))
  replace h:=yx h; obtain ⟨r0,g2,h⟩:=h
  replace h:=yah h; subst h
  refine yaq 6 (yp (zxi g2) (yf _)) ?_
  refine yak (yf _) (yb (Wp.ret ?_))
  exact ycl [.kill [0,1],.tidy]
noncomputable abbrev ybzv(r:yd):Ex→St→Prop:=yay 7 [] (.tup []) (zqn r) 11
theorem zvm{m:yd}{r:yd} (h:zge m=some r):yag Pg 54 [.ptr 0 0] (hs9 m) 7 (.tup []) (zqn r) 11:=by
  refine yag.intro Tryz.func54 yaox (yad rfl) ?_
  show Wp Pg 49 7 yaej ⟨yal _ yajx,[],_,_⟩ (ybzv r)
  unfold zge at h
  unfold yaej
  refine yai [.movc 0 11,.movc 0 12,.movc 0 13,.movc 0 16,.movc 0 8] ?_
  refine Wp.seq (yh (yb (Wp.seq ?_)))
  replace h:=yx h; obtain ⟨r0,g1,h⟩:=h
  refine yap [51] yao (ybk 7 (yp (zgf g1) (yf _)) (yau _)) (yb (Wp.seq ?_))
  refine yap [] yao (yau _) (yb (Wp.seq ?_))
  replace h:=ycw h; obtain ⟨g2,h⟩:=h
  refine yap [] yao (yau _) (yb (Wp.seq (Wp.seq ?_)))
  replace h:=yx h; obtain ⟨r0_1,g3,h⟩:=h
  refine yap [53] yao (ybk 6 (yp (zof g3) (yf _)) (yau _)) (yb ?_)
  replace h:=ifS h; rcases h with ⟨g4,h⟩ | ⟨g4,h⟩
  ·refine yab (Wp.seq (Wp.reg ?_))
   replace h:=yx h; obtain ⟨r0_2,g5,h⟩:=h
   replace h:=yah h; subst h
   refine ycy (yp (zsd g5) (yf _)) (yb (Wp.ret (yax ?_)))
   exact ycl [.kill [0,1,43],.tidy]
  ·refine yaa (Wp.skip (yb (Wp.reg ?_)))
   replace h:=yx h; obtain ⟨r0_3,g6,h⟩:=h
   replace h:=yah h; subst h
   refine ycy (yp (zrj g6) (yf _)) ?_
   exact ycl [.cell 0 8 .frz,.kill [0,1,43],.tidy]
noncomputable abbrev yabu(r:yd):Ex→St→Prop:=yay 7 [] (.tup []) (zxv r) 8
theorem zrb{x0:yg}{m:yd}{ok_1:Bool}{m_30 ze:Int}{r:yd} (h:zgr x0 m ok_1 m_30 ze=some r):Wp Pg 73 7 (.reg (some []) yaoy) ⟨[(0,.ptr 0 0),(1,.bad),(3,.ptr 8 0),(4,.bool ok_1),(51,.bad)],[],(zadz m x0 m_30 ze),9⟩ (yabu r):=by
  unfold zgr at h
  replace h:=yx h; obtain ⟨r0_2,g8,h⟩:=h
  replace h:=yah h; subst h
  refine yap [76] yao (ybk 10 (yp (zmk g8) (yf _)) (yau _)) ?_
  exact ycl [.kill [0,3,4],.tidy]
theorem zfn{x0:yg}{m:yd}{ok:Bool}{r:yd} (h:zan x0 m ok=some r):Wp Pg 73 7 (.seq (.seq (.reg none ybkv) (.cond (.t 51) (.reg none ybkw) .skip)) (.reg (some []) yaoy)) ⟨[(0,.ptr 0 0),(1,.bad),(3,.ptr 8 0),(4,.bool ok),(51,.bad)],[],(zabh m x0),9⟩ (yabu r):=by
  unfold zan at h
  refine Wp.seq (Wp.seq (yh (yb ?_)))
  replace h:=ifS h; rcases h with ⟨g7,h⟩ | ⟨g7,h⟩
  ·refine yab ?_
   refine yh (yb ?_)
   exact yt [.kill [51]] (zrb h)
  ·refine yaa (Wp.skip (yb ?_))
   exact yt [.kill [51]] (zrb h)
theorem zyc{x0:yg}{m:yd}{r:yd} (h:zgq x0 m=some r):yag Pg 55 [.ptr 0 0,.agg [.int .i64 x0.yar,.int .i64 x0.yct,.int .i64 x0.From,.int .i64 x0.To,.int .i64 x0.Term,.int .i64 x0.At,.int .i64 x0.ybd,.int .i64 x0.yl,.bool x0.Ok,sl yc.c x0.Entries,sl (ci .u8) x0.ybq]] (hs9 m) 7 (.tup []) (zxv r) 8:=by
  refine yag.intro Tryz.func55 ybkx (yad rfl) ?_
  show Wp Pg 73 7 ybbf ⟨yal _ ybbg,[],_,_⟩ (yabu r)
  unfold zgq at h
  unfold ybbf
  refine yai [.movc 0 16] ?_
  refine Wp.seq (yh (yb (Wp.seq ?_)))
  replace h:=ifS h; rcases h with ⟨g1,h⟩ | ⟨g1,h⟩
  ·replace h:=ifS h; rcases h with ⟨g2,h⟩ | ⟨g2,h⟩
   ·replace h:=ifS h; rcases h with ⟨g3,h⟩ | ⟨g3,h⟩
    ·replace h:=yx h; obtain ⟨r0,g4,h⟩:=h
     refine yap [] yao (ybk 44 (yp (zsw g4) (yf _)) (yau _)) (yb ?_)
     exact yt [.kill [1,51],.tidy] (zfn h)
    ·replace h:=ifS h; rcases h with ⟨g5,h⟩ | ⟨g5,h⟩
     ·replace h:=yx h; obtain ⟨r0_1,g6,h⟩:=h
      refine yap [] yao (ybk 44 (yp (zsw g6) (yf _)) (yau _)) (yb ?_)
      exact yt [.kill [1,51],.tidy] (zfn h)
     ·refine yap [] yao (yau _) (yb ?_)
      exact yt [.kill [1,51],.tidy] (zfn h)
   ·refine yap [] yao (yau _) (yb ?_)
    exact yt [.kill [1,51],.tidy] (zfn h)
  ·refine yap [] yao (yau _) (yb ?_)
   exact yt [.kill [1,51],.tidy] (zfn h)
noncomputable abbrev yvn(r:yd):Ex→St→Prop:=yay 7 [] (.tup []) (zqn r) 11
noncomputable abbrev zov(r0:yd)(rec0:Int→(List Int)→Option yd)(r:yd):Prop:=∀ {v49:Int} {zc:(List Int)},rec0 v49 zc=some r→LWp Pg 69 7 yrb ⟨[(0,.ptr 0 0),(2,.bad),(48,.int .i64 ((r0.ya.N.toNat:Nat):Int)),(49,.int .i64 v49),(50,.bad)],[],(hs86 r0 (3:Int) zc (List.replicate r0.ya.N.toNat (0:Int)) (0:Int)),12⟩ (yam 0 (yav Pg 69 7 (.reg none yrc) (yvn r)))
theorem zto{r0:yd}{zw:(List Int)}{r:yd} (h:zlq r0 zw=some r):Wp Pg 69 7 (.reg none yrc) ⟨[(0,.ptr 0 0),(2,.bad),(48,.bad),(49,.bad),(50,.bad)],[],(hs86 r0 (3:Int) zw (List.replicate r0.ya.N.toNat (0:Int)) (0:Int)),12⟩ (yvn r):=by
  unfold zlq at h
  refine Wp.reg ?_
  replace h:=yx h; obtain ⟨r0_2,g6,h⟩:=h
  replace h:=yah h; subst h
  refine ycy (yp (zrk g6) (yf _)) ?_
  exact ycl [.kill [0],.tidy]
theorem zsx{r0:yd}{r:yd} {zfi:Int→(List Int)→Option yd}(zsr:zov r0 zfi r){v49:Int}{zc:(List Int)}(h:zgh r0 zfi v49 zc=some r):LWp Pg 69 7 yrb ⟨[(0,.ptr 0 0),(2,.bad),(48,.int .i64 ((r0.ya.N.toNat:Nat):Int)),(49,.int .i64 v49),(50,.bad)],[],(hs86 r0 (3:Int) zc (List.replicate r0.ya.N.toNat (0:Int)) (0:Int)),12⟩ (yam 0 (yav Pg 69 7 (.reg none yrc) (yvn r))):=by
  unfold zgh at h
  refine LWp.stepC yrb.eq_1 ?_
  refine Wp.seq (yh (yb (Wp.seq ?_)))
  replace h:=ifS h; rcases h with ⟨g3,h⟩ | ⟨g3,h⟩
  ·refine yab (Wp.skip (yb (Wp.seq (Wp.block (Wp.seq ?_)))))
   refine yh (yb ?_)
   replace h:=yx h; obtain ⟨r0_1,g4,h⟩:=h
   replace h:=yx h; obtain ⟨e,g5,h⟩:=h
   have:=ycr (n:=1) (id:=9) (ex:=true) (k:=.i64) g5 rfl
   have:=ydw (c:=(ci .i64)) g5
   have:=ygk (ci .i64) zc v49 (IntKind.i64.wrap (r0_1 + (1:Int)))
   try simp only [EV,EVt, *] at this
   refine yap [] yao (ybk 11 (yp (zbr g4) (yf _)) (yau _)) (ybh (yb ?_))
   refine yh (ydk ?_)
   exact ybl [.kill [2,50],.tidy] (zsr h)
  ·refine yaa (Wp.out (ydy (ydi (ycn (yb ?_)))))
   exact yt [.kill [48,49,50]] (zto h)
theorem ztp{r0:yd}{r:yd}:∀ (n:Nat),zov r0 (zba r0 n) r:=by
  intro n
  induction n with
  | zero=>intro v49 zc h; unfold zba at h; cases h
  | succ n ih=>intro v49 zc h; unfold zba at h; exact zsx ih h
theorem zvz{m:yd}{r:yd} (h:zee m=some r):yag Pg 56 [.ptr 0 0] (hs9 m) 7 (.tup []) (zqn r) 11:=by
  refine yag.intro Tryz.func56 yaoz (yad rfl) ?_
  show Wp Pg 69 7 yaek ⟨yal _ yajy,[],_,_⟩ (yvn r)
  unfold zee at h
  unfold yaek
  refine yai [.movc 0 11,.movc 0 12,.movc 0 13,.movc 0 16,.movc 0 8] ?_
  refine Wp.seq ?_
  replace h:=yx h; obtain ⟨r0,g1,h⟩:=h
  refine yap [51] yao (ybk 11 (yp (zgf g1) (yf _)) (yau _)) (yb (Wp.seq ?_))
  refine yh (yb (Wp.seq ?_))
  replace h:=ycw h; obtain ⟨g2,h⟩:=h
  refine yap [] yao (yau _) (yb (Wp.seq (Wp.seq ?_)))
  refine yh (yb (Wp.block (Wp.loop ?_)))
  exact ybl [.kill [2,50],.tidy] (ztp _ h)
noncomputable abbrev ycab(r:yd):Ex→St→Prop:=yay 6 [] (.tup []) (yum r) 7
theorem zqw{to0:Int}{x0:yg}{m:yd}{r:yd} (h:zeg to0 x0 m=some r):yag Pg 76 [.ptr 0 0,.int .i64 to0,.agg [.int .i64 x0.yar,.int .i64 x0.yct,.int .i64 x0.From,.int .i64 x0.To,.int .i64 x0.Term,.int .i64 x0.At,.int .i64 x0.ybd,.int .i64 x0.yl,.bool x0.Ok,.nil,.nil]] (yun m) 6 (.tup []) (yum r) 7:=by
  refine yag.intro Tryz.func76 ywx (yad rfl) ?_
  show Wp Pg 24 6 ypk ⟨yal _ yzn,[],_,_⟩ (ycab r)
  unfold zeg at h
  unfold ypk
  refine yai [.movc 0 16] ?_
  refine Wp.seq (yh (yb (Wp.seq ?_)))
  refine yh (yb ?_)
  replace h:=ycw h; obtain ⟨g1,h⟩:=h
  replace h:=yah h; subst h
  refine yap [] yao (yau _) ?_
  exact ycl [.kill [0,1,2,5],.tidy]
noncomputable abbrev yaqz(r:(Bool × yd)):Ex→St→Prop:=yay 7 [.tmp 4] (.bool r.1) (zadg r.2) 11
theorem zqu{x0:yg}{m:yd}{v20:Bool}{r:(Bool × yd)} (h:zec x0 m v20=some r):Wp Pg 41 7 (.cond (.t 20) (.seq (.reg (some []) ybop) (.seq (.reg none yboq) .ret)) .skip) ⟨[(0,.ptr 0 0),(1,.bad),(3,.ptr 11 0),(4,.bad),(20,.bool v20)],[],(zadn m x0),12⟩ (yav Pg 41 7 (.seq (.reg none ybor) (.seq (.reg none ybos) (.seq (.reg none ybot) .ret))) (yaqz r)):=by
  unfold zec at h
  replace h:=ifS h; rcases h with ⟨g2,h⟩ | ⟨g2,h⟩
  ·refine yab (Wp.seq ?_)
   replace h:=yx h; obtain ⟨r0,g3,h⟩:=h
   replace h:=yah h; subst h
   refine yap [76] yao (ybk 9 (yp (zmk g3) (yf _)) (yau _)) (yb (Wp.seq ?_))
   refine yh (yb (Wp.ret (yax ?_)))
   exact ycl [.kill [0,3,20],.tidy]
  ·refine yaa (Wp.skip (yb (Wp.seq (Wp.reg ?_))))
   replace h:=yx h; obtain ⟨r0_1,g4,h⟩:=h
   replace h:=yah h; subst h
   refine ycy (yp (zgf g4) (yf _)) (yb (Wp.seq ?_))
   refine yh (yb (Wp.seq ?_))
   refine yh (yb (Wp.ret ?_))
   exact ycl [.kill [0,3,20],.tidy]
theorem zsc{x0:yg}{m:yd}{r:(Bool × yd)} (h:zgm x0 m=some r):yag Pg 94 [.ptr 0 0,.agg [.int .i64 x0.yar,.int .i64 x0.yct,.int .i64 x0.From,.int .i64 x0.To,.int .i64 x0.Term,.int .i64 x0.At,.int .i64 x0.ybd,.int .i64 x0.yl,.bool x0.Ok,sl yc.c x0.Entries,sl (ci .u8) x0.ybq]] (hs9 m) 7 (.bool r.1) (zadg r.2) 11:=by
  refine yag.intro Tryz.func94 ybou (yad rfl) ?_
  show Wp Pg 41 7 ybds ⟨yal _ ybdt,[],_,_⟩ (yaqz r)
  unfold zgm at h
  unfold ybds
  refine yai [.movc 0 11,.movc 0 12,.movc 0 13,.movc 0 16] ?_
  refine Wp.seq (yh (yb (Wp.seq (Wp.seq ?_))))
  replace h:=ifS h; rcases h with ⟨g1,h⟩ | ⟨g1,h⟩
  ·refine yap [] yao (yau _) (yb ?_)
   exact yt [.kill [1,4],.tidy] (zqu h)
  ·refine yap [] yao (yau _) (yb ?_)
   exact yt [.kill [1,4],.tidy] (zqu h)
noncomputable abbrev yog(r:(yz × Int × Bool)):Ex→St→Prop:=yay 0 [.cell 8 true 3,.tmp 9,.tmp 10] (.tup [.agg [.int .i64 r.1.yn,.int .i64 r.1.yi,sl yc.c r.1.Entries],.int .i64 r.2.1,.bool r.2.2]) [] 0
noncomputable abbrev zrv(l:yz)(r0_1:(Int × Bool))(rec0:Int→Int→Bool→Option (yz × Int × Bool))(r:(yz × Int × Bool)):Prop:=∀ {hint t:Int} {ok:Bool},rec0 hint t ok=some r→LWp Pg 141 0 ytx ⟨[(0,.bad),(1,.bad),(2,.bad),(3,.bad),(4,.ptr 0 0),(8,.ptr 1 0),(9,.bad),(10,.bad),(11,.bad),(12,.int .i64 r0_1.1),(13,.bad),(14,.int .i64 hint),(15,.int .i64 t),(16,.bool ok),(17,.bad),(18,.bad),(19,.bad),(20,.bad),(24,.bad),(32,.bad),(51,.bad),(58,.bad),(78,.bad),(95,.bad),(96,.bad),(97,.bad),(98,.bad),(112,.bad),(121,.bad)],[],[(0,.box [.int .i64 l.yn,.int .i64 l.yi,sl yc.c l.Entries]),(1,.box [.int .i64 (0:Int),.int .i64 (0:Int),.nil])],2⟩ (yam 0 (yav Pg 141 0 (.seq (.reg (some [(1,4),(4,6)]) yqd) .ret) (yav Pg 141 0 (.seq (.reg none yqe) (.seq (.seq (.reg none yqf) (.block 2 (.loop yky))) (.seq (.reg none yjh) .ret))) (yog r))))
noncomputable abbrev zwd(l:yz)(at0_1:Int)(entries_1:(List yc))(r0_7:yz)(rec0:Int→Option (yz × Int × Bool))(r:(yz × Int × Bool)):Prop:=∀ {v97:Int},rec0 v97=some r→LWp Pg 141 0 yky ⟨[(0,.bad),(1,.int .i64 at0_1),(2,.bad),(3,sl yc.c entries_1),(4,.ptr 0 0),(8,.ptr 1 0),(9,.bad),(10,.bad),(11,.bad),(12,.bad),(13,.bad),(14,.bad),(15,.bad),(16,.bad),(17,.ptr 2 0),(18,.bad),(19,.bad),(20,.bad),(24,.bad),(32,.bad),(51,.bad),(58,.bad),(78,.bad),(95,sl yc.c entries_1),(96,.int .i64 (entries_1.length:Int)),(97,.int .i64 v97),(98,.bad),(112,.bad),(121,.bad)],[],[(0,.box [.int .i64 l.yn,.int .i64 l.yi,sl yc.c l.Entries]),(1,.box [.int .i64 (0:Int),.int .i64 (0:Int),.nil]),(2,.box [.int .i64 r0_7.yn,.int .i64 r0_7.yi,.own 2 3 0 ((r0_7.Entries).length) false]),(3,.arr 2 (List.map yc.c r0_7.Entries) 0)],4⟩ (yam 2 (yav Pg 141 0 (.seq (.reg none yjh) .ret) (yog r)))
theorem zwj{at0_1:Int}{entries_1:(List yc)}{r0_7:yz}{out_2_1:(List yc)}{r:(yz × Int × Bool)} (h:zmo at0_1 entries_1 r0_7 out_2_1=some r):Wp Pg 141 0 (.seq (.reg none yjh) .ret) ⟨[(0,.bad),(1,.int .i64 at0_1),(2,.bad),(3,sl yc.c entries_1),(4,.bad),(8,.ptr 0 0),(9,.bad),(10,.bad),(11,.bad),(12,.bad),(13,.bad),(14,.bad),(15,.bad),(16,.bad),(17,.ptr 1 0),(18,.bad),(19,.bad),(20,.bad),(24,.bad),(32,.bad),(51,.bad),(58,.bad),(78,.bad),(95,.bad),(96,.bad),(97,.bad),(98,.bad),(112,.bad),(121,.bad)],[],[(0,.box [.int .i64 (0:Int),.int .i64 (0:Int),.nil]),(1,.box [.int .i64 r0_7.yn,.int .i64 r0_7.yi,.own 2 2 0 out_2_1.length false]),(2,.arr 2 (List.map yc.c out_2_1) 0)],3⟩ (yog r):=by
  unfold zmo at h
  replace h:=yah h; subst h
  refine Wp.seq (yh (yb ?_))
  refine yai [.cell 8 2 .frz] (Wp.ret ?_)
  exact yan
theorem zwi{at0_1:Int}{entries_1:(List yc)}{r0_7:yz}{v97:Int}{out_2:(List yc)}{r:(yz × Int × Bool)} (h:zmn at0_1 entries_1 r0_7 v97 out_2=some r):Wp Pg 141 0 (.seq (.reg (some [(1,5)]) yawj) (.out 2)) ⟨[(0,.bad),(1,.int .i64 at0_1),(2,.bad),(3,sl yc.c entries_1),(4,.bad),(8,.ptr 0 0),(9,.bad),(10,.bad),(11,.bad),(12,.bad),(13,.bad),(14,.bad),(15,.bad),(16,.bad),(17,.ptr 1 0),(18,.int .i64 v97),(19,.bad),(20,.bad),(24,.bad),(32,.bad),(51,.bad),(58,.bad),(78,.bad),(95,.bad),(96,.bad),(97,.bad),(98,.bad),(112,.bad),(121,.bad)],[],[(0,.box [.int .i64 (0:Int),.int .i64 (0:Int),.nil]),(1,.box [.int .i64 r0_7.yn,.int .i64 r0_7.yi,.own 2 2 0 out_2.length false]),(2,.arr 2 (List.map yc.c out_2) 0)],3⟩ (yam 3 (yav Pg 141 0 (.reg none yawk) (ydl Pg 141 0 yky (yam 2 (yav Pg 141 0 (.seq (.reg none yjh) .ret) (yog r)))))):=by
  unfold zmn at h
  refine Wp.seq ?_
  replace h:=yx h; obtain ⟨l_3,g23,h⟩:=h
  replace h:=yx h; obtain ⟨r0_8,g24,h⟩:=h
  replace h:=ycw h; obtain ⟨g25,h⟩:=h
  refine yap [81] yao (ybk 5 (yp (zps g24) (yf _)) (yau _)) (yb (Wp.out (ybgr rfl (ydy (ydi (ycn (yb ?_)))))))
  exact yt [.kill [18],.tidy] (zwj h)
theorem zaai{l:yz}{at0_1:Int}{entries_1:(List yc)}{r0_7:yz}{r:(yz × Int × Bool)} {znp:Int→Option (yz × Int × Bool)}(zza:zwd l at0_1 entries_1 r0_7 znp r){v97:Int}(h:zmu l at0_1 entries_1 r0_7 znp v97=some r):LWp Pg 141 0 yky ⟨[(0,.bad),(1,.int .i64 at0_1),(2,.bad),(3,sl yc.c entries_1),(4,.ptr 0 0),(8,.ptr 1 0),(9,.bad),(10,.bad),(11,.bad),(12,.bad),(13,.bad),(14,.bad),(15,.bad),(16,.bad),(17,.ptr 2 0),(18,.bad),(19,.bad),(20,.bad),(24,.bad),(32,.bad),(51,.bad),(58,.bad),(78,.bad),(95,sl yc.c entries_1),(96,.int .i64 (entries_1.length:Int)),(97,.int .i64 v97),(98,.bad),(112,.bad),(121,.bad)],[],[(0,.box [.int .i64 l.yn,.int .i64 l.yi,sl yc.c l.Entries]),(1,.box [.int .i64 (0:Int),.int .i64 (0:Int),.nil]),(2,.box [.int .i64 r0_7.yn,.int .i64 r0_7.yi,.own 2 3 0 ((r0_7.Entries).length) false]),(3,.arr 2 (List.map yc.c r0_7.Entries) 0)],4⟩ (yam 2 (yav Pg 141 0 (.seq (.reg none yjh) .ret) (yog r))):=by
  unfold zmu at h
  refine LWp.stepC yky.eq_1 ?_
  refine Wp.seq (yh (yb (Wp.seq ?_)))
  replace h:=ifS h; rcases h with ⟨g17,h⟩ | ⟨g17,h⟩
  ·refine yab (Wp.skip (yb (Wp.seq (Wp.block (Wp.seq ?_)))))
   replace h:=yx h; obtain ⟨e,g18,h⟩:=h
   refine yh (yb (Wp.seq ?_))
   refine yh (yb (Wp.seq (Wp.seq ?_)))
   refine yh (yb ?_)
   replace h:=ifS h; rcases h with ⟨g19,h⟩ | ⟨g19,h⟩
   ·refine yab (Wp.seq (Wp.seq ?_))
    replace h:=yx h; obtain ⟨e_1,g20,h⟩:=h
    have:=ycr (n:=2) (id:=3) (ex:=false) (k:=.i64) g20 rfl
    have:=ydw (c:=yc.c) g20
    refine yap [] yao (yau _) (yb ?_)
    replace h:=ifS h; rcases h with ⟨g21,h⟩ | ⟨g21,h⟩
    ·refine yab (Wp.out (ydy (ydy (ycn (yb ?_)))))
     refine yh (ydk ?_)
     exact ybl [.kill [18,19,20,98,112,121],.tidy] (zza h)
    ·refine yaa (Wp.skip (yb ?_))
     replace h:=yx h; obtain ⟨l_2,g22,h⟩:=h
     have:=ycbh (n:=2) (id:=3) (k:=.i64) g22
     have:=ycet (c:=yc.c) g22
     refine yh (yb ?_)
     exact yt [.cut 3 l_2.length,.kill [4,19,20,95,96,97,98,112,121],.tidy] (zwi h)
   ·refine yaa (Wp.skip (yb ?_))
    exact yt [.kill [4,19,20,95,96,97,98,112],.tidy] (zwi h)
  ·refine yaa (Wp.out (ydy (ydi (ycn (yb ?_)))))
   exact yt [.kill [4,95,96,97,98],.tidy] (zwj h)
theorem zabz{l:yz}{at0_1:Int}{entries_1:(List yc)}{r0_7:yz}{r:(yz × Int × Bool)}:∀ (n:Nat),zwd l at0_1 entries_1 r0_7 (zic l at0_1 entries_1 r0_7 n) r:=by
  intro n
  induction n with
  | zero=>intro v97 h; unfold zic at h; cases h
  | succ n ih=>intro v97 h; unfold zic at h; exact zaai ih h
theorem zabx{l:yz}{hint_1:Int}{r:(yz × Int × Bool)} (h:zoy l hint_1=some r):Wp Pg 141 0 (.seq (.reg (some [(1,4),(4,6)]) yqd) .ret) ⟨[(0,.bad),(1,.bad),(2,.bad),(3,.bad),(4,.ptr 0 0),(8,.ptr 1 0),(9,.bad),(10,.bad),(11,.bad),(12,.bad),(13,.bad),(14,.int .i64 hint_1),(15,.bad),(16,.bad),(17,.bad),(18,.bad),(19,.bad),(20,.bad),(24,.bad),(32,.bad),(51,.bad),(58,.bad),(78,.bad),(95,.bad),(96,.bad),(97,.bad),(98,.bad),(112,.bad),(121,.bad)],[],[(0,.box [.int .i64 l.yn,.int .i64 l.yi,sl yc.c l.Entries]),(1,.box [.int .i64 (0:Int),.int .i64 (0:Int),.nil])],2⟩ (yav Pg 141 0 (.seq (.reg none yqe) (.seq (.seq (.reg none yqf) (.block 2 (.loop yky))) (.seq (.reg none yjh) .ret))) (yog r)):=by
  unfold zoy at h
  refine Wp.seq ?_
  replace h:=yx h; obtain ⟨r0_6,g15,h⟩:=h
  replace h:=yah h; subst h
  refine yap [42] yao (ybk 1 (yp (zkf g15) (yf _)) (yau _)) (yb ?_)
  refine yai [.cell 8 2 .frz] (Wp.ret (yax ?_))
  exact yan
theorem zsb{r0_1:(Int × Bool)}{l:yz}{hint:Int}{v78:Bool}{r:(yz × Int × Bool)}{zbh:Int→Int→Bool→Option (yz × Int × Bool)}(ziz:zrv l r0_1 zbh r)(h:zbp zbh l hint v78=some r):Wp Pg 141 0 (.cond (.t 78) .skip (.out 0)) ⟨[(0,.bad),(1,.bad),(2,.bad),(3,.bad),(4,.ptr 0 0),(8,.ptr 1 0),(9,.bad),(10,.bad),(11,.bad),(12,.int .i64 r0_1.1),(13,.bad),(14,.int .i64 hint),(15,.bad),(16,.bad),(17,.bad),(18,.bad),(19,.bad),(20,.bad),(24,.bad),(32,.bad),(51,.bad),(58,.bad),(78,.bool v78),(95,.bad),(96,.bad),(97,.bad),(98,.bad),(112,.bad),(121,.bad)],[],[(0,.box [.int .i64 l.yn,.int .i64 l.yi,sl yc.c l.Entries]),(1,.box [.int .i64 (0:Int),.int .i64 (0:Int),.nil])],2⟩ (yav Pg 141 0 (.seq (.block 1 (.reg none yawh)) (.reg none yawi)) (ydl Pg 141 0 ytx (yam 0 (yav Pg 141 0 (.seq (.reg (some [(1,4),(4,6)]) yqd) .ret) (yav Pg 141 0 (.seq (.reg none yqe) (.seq (.seq (.reg none yqf) (.block 2 (.loop yky))) (.seq (.reg none yjh) .ret))) (yog r)))))):=by
  unfold zbp at h
  replace h:=ifS h; rcases h with ⟨g13,h⟩ | ⟨g13,h⟩
  ·refine yab (Wp.skip (yb (Wp.seq (Wp.block ?_))))
   refine yh (ybh (yb (Wp.reg ?_)))
   replace h:=yx h; obtain ⟨r0_5,g14,h⟩:=h
   refine yaq 3 (yp (zdq g14) (yf _)) ?_
   refine yak (yf _) (ydk ?_)
   exact ybl [.kill [78]] (ziz h)
  ·refine yaa (Wp.out (ydy (ydi (ycn (yb ?_)))))
   exact yt [.kill [12,78]] (zabx h)
theorem zaah{l:yz}{r0_1:(Int × Bool)}{r:(yz × Int × Bool)} {zbh:Int→Int→Bool→Option (yz × Int × Bool)}(ziz:zrv l r0_1 zbh r){hint t:Int}{ok:Bool}(h:zjr l r0_1 zbh hint t ok=some r):LWp Pg 141 0 ytx ⟨[(0,.bad),(1,.bad),(2,.bad),(3,.bad),(4,.ptr 0 0),(8,.ptr 1 0),(9,.bad),(10,.bad),(11,.bad),(12,.int .i64 r0_1.1),(13,.bad),(14,.int .i64 hint),(15,.int .i64 t),(16,.bool ok),(17,.bad),(18,.bad),(19,.bad),(20,.bad),(24,.bad),(32,.bad),(51,.bad),(58,.bad),(78,.bad),(95,.bad),(96,.bad),(97,.bad),(98,.bad),(112,.bad),(121,.bad)],[],[(0,.box [.int .i64 l.yn,.int .i64 l.yi,sl yc.c l.Entries]),(1,.box [.int .i64 (0:Int),.int .i64 (0:Int),.nil])],2⟩ (yam 0 (yav Pg 141 0 (.seq (.reg (some [(1,4),(4,6)]) yqd) .ret) (yav Pg 141 0 (.seq (.reg none yqe) (.seq (.seq (.reg none yqf) (.block 2 (.loop yky))) (.seq (.reg none yjh) .ret))) (yog r)))):=by
  unfold zjr at h
  refine LWp.stepC ytx.eq_1 ?_
  refine Wp.seq (Wp.seq ?_)
  replace h:=ifS h; rcases h with ⟨g11,h⟩ | ⟨g11,h⟩
  ·replace h:=ifS h; rcases h with ⟨g12,h⟩ | ⟨g12,h⟩
   ·refine yh (yb ?_)
    exact yt [.kill [15,16]] (zsb (r0_1:=r0_1) ziz h)
   ·refine yh (yb ?_)
    exact yt [.kill [15,16]] (zsb (r0_1:=r0_1) ziz h)
  ·refine yh (yb ?_)
   exact yt [.kill [15,16]] (zsb (r0_1:=r0_1) ziz h)
theorem zaby{l:yz}{r0_1:(Int × Bool)}{r:(yz × Int × Bool)}:∀ (n:Nat),zrv l r0_1 (zar l r0_1 n) r:=by
  intro n
  induction n with
  | zero=>intro hint t ok h; unfold zar at h; cases h
  | succ n ih=>intro hint t ok h; unfold zar at h; exact zaah ih h
theorem zwh{l:yz}{at0_1 term_1:Int}{entries_1:(List yc)}{r:(yz × Int × Bool)} (h:zmm l at0_1 term_1 entries_1=some r):Wp Pg 141 0 (.seq (.reg none ybov) (.seq (.seq (.reg none ybow) (.cond (.t 51) (.seq (.reg (some [(1,2)]) ybox) .ret) .skip)) (.seq (.seq (.reg none yboy) (.cond (.t 58) (.seq (.reg none yawf) (.seq (.seq (.reg none yawg) (.block 0 (.loop ytx))) (.seq (.reg (some [(1,4),(4,6)]) yqd) .ret))) .skip)) (.seq (.reg none yqe) (.seq (.seq (.reg none yqf) (.block 2 (.loop yky))) (.seq (.reg none yjh) .ret)))))) ⟨[(0,.bad),(1,.int .i64 at0_1),(2,.int .i64 term_1),(3,sl yc.c entries_1),(4,.ptr 0 0),(8,.ptr 1 0),(9,.bad),(10,.bad),(11,.bad),(12,.bad),(13,.bad),(14,.bad),(15,.bad),(16,.bad),(17,.bad),(18,.bad),(19,.bad),(20,.bad),(24,.bad),(32,.bad),(51,.bad),(58,.bad),(78,.bad),(95,.bad),(96,.bad),(97,.bad),(98,.bad),(112,.bad),(121,.bad)],[],[(0,.box [.int .i64 l.yn,.int .i64 l.yi,sl yc.c l.Entries]),(1,.box [.int .i64 (0:Int),.int .i64 (0:Int),.nil])],2⟩ (yog r):=by
  unfold zmm at h
  refine Wp.seq (Wp.reg ?_)
  replace h:=yx h; obtain ⟨r0_1,g5,h⟩:=h
  refine yaq 3 (yp (zdq g5) (yf _)) ?_
  refine yak (yf _) (yb (Wp.seq (Wp.seq ?_)))
  refine yh (yb ?_)
  replace h:=ifS h; rcases h with ⟨g6,h⟩ | ⟨g6,h⟩
  ·refine yaa (Wp.skip (yb (Wp.seq (Wp.seq ?_))))
   refine yh (yb ?_)
   replace h:=ifS h; rcases h with ⟨g9,h⟩ | ⟨g9,h⟩
   ·refine yab (Wp.seq ?_)
    refine yh (yb (Wp.seq (Wp.seq (Wp.reg ?_))))
    replace h:=yx h; obtain ⟨r0_4,g10,h⟩:=h
    refine yaq 3 (yp (zdq g10) (yf _)) ?_
    refine yak (yf _) (yb (Wp.block (Wp.loop ?_)))
    exact ybl [.kill [1,2,3,13,51,58]] (zaby _ h)
   ·refine yaa (Wp.skip (yb (Wp.seq (Wp.reg ?_))))
    replace h:=yx h; obtain ⟨r0_7,g16,h⟩:=h
    refine yew 2 (yp (zkf g16) (yf _)) ?_
    refine yak (yf _) (yb (Wp.seq (Wp.seq ?_)))
    refine yh (yb (Wp.block (Wp.loop ?_)))
    exact ybl [.kill [2,12,13,51,58],.tidy] (zabz _ h)
  ·refine yab (Wp.seq ?_)
   replace h:=yx h; obtain ⟨r0_2,g7,h⟩:=h
   replace h:=yx h; obtain ⟨r0_3,g8,h⟩:=h
   replace h:=yah h; subst h
   refine yap [42] yao (ybk 1 (yp (zkf g7) (yf _)) (ybk 3 (yp (zbr g8) (yf _)) (yau _))) (yb ?_)
   refine yai [.cell 8 2 .frz] (Wp.ret (yax ?_))
   exact yan
theorem zacx{l:yz}{at0:Int}{term:Int}{entries:(List yc)}{r:(yz × Int × Bool)} (h:zrx l at0 term entries=some r):yag Pg 95 [.agg [.int .i64 l.yn,.int .i64 l.yi,sl yc.c l.Entries],.int .i64 at0,.int .i64 term,sl yc.c entries] [] 0 (.tup [.agg [.int .i64 r.1.yn,.int .i64 r.1.yi,sl yc.c r.1.Entries],.int .i64 r.2.1,.bool r.2.2]) [] 0:=by
  refine yag.intro Tryz.func95 yboz (yad rfl) ?_
  show Wp Pg 141 0 ybdu ⟨yal _ ybdv,[],_,_⟩ (yog r)
  unfold zrx at h
  unfold ybdu
  refine yai [] ?_
  refine Wp.seq (yh (yb (Wp.seq (Wp.seq ?_))))
  refine yh (yb ?_)
  replace h:=ifS h; rcases h with ⟨g1,h⟩ | ⟨g1,h⟩
  ·refine yab (Wp.seq ?_)
   refine yh (yb (Wp.seq (Wp.seq ?_)))
   refine yh (yb ?_)
   replace h:=ifS h; rcases h with ⟨g2,h⟩ | ⟨g2,h⟩
   ·refine yab (Wp.seq ?_)
    replace h:=yx h; obtain ⟨r0,g3,h⟩:=h
    replace h:=yah h; subst h
    refine yap [42] yao (ybk 1 (yp (zkf g3) (yf _)) (yau _)) (yb ?_)
    refine yai [.cell 8 2 .frz] (Wp.ret (yax (yax ?_)))
    exact yan
   ·refine yaa (Wp.skip (yb ?_))
    replace h:=yx h; obtain ⟨l_1,g4,h⟩:=h
    refine yap [] yao (yau _) (yb ?_)
    exact yt [.kill [0,9,10,11,12,13,14,15,16,17,18,19,20,24,32,51,58,78,95,96,97,98,112,121],.tidy] (zwh h)
  ·refine yaa (Wp.skip (yb ?_))
   exact yt [.kill [0,9,10,11,12,13,14,15,16,17,18,19,20,24,32,51,58,78,95,96,97,98,112,121],.tidy] (zwh h)
noncomputable abbrev yaqu(r:yd):Ex→St→Prop:=yay 7 [] (.tup []) (zqn r) 11
theorem zpc{x0:yg}{r0:(Bool × yd)}{r0_1:(yz × Int × Bool)}{ok:Bool}{m_60 m_70:Int}{m_80:(List yc)}{m_90:Int}{r:yd} (h:zct x0 r0 r0_1 ok m_60 m_70 m_80 m_90=some r):Wp Pg 59 7 (.reg (some []) ybky) ⟨[(0,.ptr 0 0),(1,.bad),(3,.ptr 11 0),(4,.bad),(5,.int .i64 r0_1.2.1),(6,.bool ok),(10,.bad),(27,.bad)],[],(zado r0.2 x0 m_60 m_70 m_80 m_90),12⟩ (yaqu r):=by
  unfold zct at h
  replace h:=yx h; obtain ⟨r0_2,g5,h⟩:=h
  replace h:=yah h; subst h
  refine yap [76] yao (ybk 11 (yp (zqw g5) (yf _)) (yau _)) ?_
  exact ycl [.kill [0,3,5,6],.drop [1],.tidy]
theorem zvw{x0:yg}{m:yd}{r:yd} (h:zeb x0 m=some r):yag Pg 57 [.ptr 0 0,.agg [.int .i64 x0.yar,.int .i64 x0.yct,.int .i64 x0.From,.int .i64 x0.To,.int .i64 x0.Term,.int .i64 x0.At,.int .i64 x0.ybd,.int .i64 x0.yl,.bool x0.Ok,sl yc.c x0.Entries,sl (ci .u8) x0.ybq]] (hs9 m) 7 (.tup []) (zqn r) 11:=by
  refine yag.intro Tryz.func57 ybkz (yad rfl) ?_
  show Wp Pg 59 7 ybbh ⟨yal _ ybbi,[],_,_⟩ (yaqu r)
  unfold zeb at h
  unfold ybbh
  refine yai [.movc 0 11,.movc 0 12,.movc 0 13,.movc 0 16] ?_
  refine Wp.seq (yh (yb (Wp.seq (Wp.seq (Wp.reg ?_)))))
  replace h:=yx h; obtain ⟨r0,g1,h⟩:=h
  refine yew 3 (yp (zsc g1) (yf _)) ?_
  refine yak (yf _) (yb ?_)
  replace h:=ifS h; rcases h with ⟨g2,h⟩ | ⟨g2,h⟩
  ·refine yaa (Wp.skip (yb (Wp.seq ?_)))
   replace h:=yx h; obtain ⟨r0_1,g3,h⟩:=h
   refine yap [] yao (ybk 11 (yp (zacx g3) (yf _)) (yau _)) (yb (Wp.seq (Wp.seq ?_)))
   refine yh (yb ?_)
   replace h:=ifS h; rcases h with ⟨g4,h⟩ | ⟨g4,h⟩
   ·refine yab (Wp.seq ?_)
    refine yh (yb ?_)
    refine yap [] yao (yau _) (yb ?_)
    exact yt [.kill [1,4,10,27],.tidy] (zpc h)
   ·refine yaa (Wp.skip (yb ?_))
    exact yt [.kill [1,4,10,27],.cell 0 8 .frz,.tidy] (zpc h)
  ·replace h:=yah h; subst h
   refine yab (Wp.ret (yax ?_))
   exact ycl [.cell 0 8 .frz,.kill [0,1,3,4,5,6,10,27],.drop [1],.tidy]
noncomputable abbrev yaqy(r:yd):Ex→St→Prop:=yay 7 [] (.tup []) (hs9 r) 7
theorem zix{m:yd}{r0:Int}{v39:Bool}{r:yd} (h:zdo m r0 v39=some r):Wp Pg 45 7 (.cond (.t 39) (.reg none yaep) .skip) ⟨[(0,.ptr 0 0),(2,.int .i64 r0),(3,.bad),(4,.bad),(39,.bool v39)],[],(hs9 m),7⟩ (yaqy r):=by
  unfold zdo at h
  replace h:=ifS h; rcases h with ⟨g5,h⟩ | ⟨g5,h⟩
  ·replace h:=yah h; subst h
   refine yab ?_
   refine yh ?_
   exact ycl [.kill [0,2,39],.tidy]
  ·replace h:=yah h; subst h
   refine yaa (Wp.skip ?_)
   exact ycl [.kill [0,2,39],.tidy]
theorem zuz{m:yd}{r:yd} (h:zfl m=some r):yag Pg 80 [.ptr 0 0] (hs9 m) 7 (.tup []) (hs9 r) 7:=by
  refine yag.intro Tryz.func80 yaer (yad rfl) ?_
  show Wp Pg 45 7 yuq ⟨yal _ yaeq,[],_,_⟩ (yaqy r)
  unfold zfl at h
  unfold yuq
  refine yai [] ?_
  refine Wp.seq (Wp.reg ?_)
  replace h:=yx h; obtain ⟨r0,g1,h⟩:=h
  refine yaq 6 (yp (zqh g1) (yf _)) ?_
  refine yak (yf _) (yb (Wp.seq (Wp.reg ?_)))
  replace h:=yx h; obtain ⟨r0_1,g2,h⟩:=h
  refine yaq 7 (yp (zdq g2) (yf _)) ?_
  refine yak (yf _) (yb (Wp.seq ?_))
  replace h:=ifS h; rcases h with ⟨g3,h⟩ | ⟨g3,h⟩
  ·replace h:=ifS h; rcases h with ⟨g4,h⟩ | ⟨g4,h⟩
   ·refine yh (yb ?_)
    exact yt [.kill [3,4]] (zix h)
   ·refine yh (yb ?_)
    exact yt [.kill [3,4]] (zix h)
  ·refine yh (yb ?_)
   exact yt [.kill [3,4]] (zix h)
noncomputable abbrev yabv(r:yd):Ex→St→Prop:=yay 7 [] (.tup []) (yqz r) 8
theorem zra{x0:yg}{m_00 m_10 m_20 m_30 m_40 m_50 m_60 m_70 m_90 ze zh:Int}{zd:(List Int)}{zf:(List Bool)}{zc zg:(List Int)}{m_80:(List yc)}{zi:(List yg)}{r:yd} (h:zej x0 m_00 m_10 m_20 m_30 m_40 m_50 m_60 m_70 m_90 ze zh zd zf zc zg m_80 zi=some r):Wp Pg 127 7 (.reg none yapa) ⟨[(0,.ptr 0 0),(1,.bad),(3,.ptr 9 0),(4,.bad),(20,.bad),(25,.bad),(92,.bad)],[],(zaea x0 m_00 m_10 m_20 m_30 m_40 m_50 m_60 m_70 m_80 m_90 zd zf zc zg ze zh zi),10⟩ (yabv r):=by
  unfold zej at h
  refine Wp.reg ?_
  replace h:=yx h; obtain ⟨r0_3,g14,h⟩:=h
  replace h:=yah h; subst h
  refine ycy (yp (zya g14) (yf _)) ?_
  exact ycl [.kill [0,3],.tidy]
theorem zqz{x0:yg}{m:yd}{v20:Bool}{r:yd} (h:zbu x0 m v20=some r):Wp Pg 127 7 (.cond (.t 20) .ret .skip) ⟨[(0,.ptr 0 0),(1,.bad),(3,.ptr 9 0),(4,.bad),(20,.bool v20),(25,.bad),(92,.bad)],[],(zadp m x0),10⟩ (yav Pg 127 7 (.seq (.reg none ybla) (.seq (.seq (.reg none yblb) (.cond (.t 25) (.seq (.reg (some [(4,21),(10,21),(13,21),(15,21)]) yblc) (.seq (.reg (some []) ybld) (.seq (.reg none yble) (.seq (.reg (some [(4,13),(7,13)]) yblf) (.cond (.t 92) .ret .skip))))) (.reg (some []) yblg))) (.reg none yapa))) (yabv r)):=by
  unfold zbu at h
  replace h:=ifS h; rcases h with ⟨g2,h⟩ | ⟨g2,h⟩
  ·replace h:=yah h; subst h
   refine yab (Wp.ret (yax ?_))
   exact ycl [.cell 0 8 .frz,.kill [0,3,20],.tidy]
  ·refine yaa (Wp.skip (yb (Wp.seq ?_)))
   refine yh (yb (Wp.seq (Wp.seq ?_)))
   refine yh (yb ?_)
   replace h:=ifS h; rcases h with ⟨g3,h⟩ | ⟨g3,h⟩
   ·refine yab (Wp.seq ?_)
    replace h:=yx h; obtain ⟨e,g4,h⟩:=h
    replace h:=yx h; obtain ⟨r0,g5,h⟩:=h
    have:=ycr (n:=1) (id:=5) (ex:=false) (k:=.i64) g4 rfl
    have:=ydw (c:=(ci .i64)) g4
    have:=ygk (ci .i64) m.ya.yr (IntKind.i64.wrap (x0.From - (1:Int))) (if e < (if r0 < x0.At then r0 else x0.At) then (if r0 < x0.At then r0 else x0.At) else e)
    try simp only [EV,EVt, *] at this
    refine yap [] yao (ybk 21 (yp (zbr g5) (yf _)) (yau _)) (yb (Wp.seq ?_))
    replace h:=yx h; obtain ⟨e_1,g6,h⟩:=h
    replace h:=yx h; obtain ⟨e_2,g7,h⟩:=h
    have:=ycr (n:=1) (id:=4) (ex:=false) (k:=.i64) g6 rfl
    have:=ydw (c:=(ci .i64)) g6
    have:=ycr (n:=1) (id:=5) (ex:=false) (k:=.i64) g7 rfl
    try simp only [EV,EVt, *] at this
    have:=ydw (c:=(ci .i64)) g7
    try simp only [EV,EVt, *] at this
    have:=ygk (ci .i64) m.ya.Next (IntKind.i64.wrap (x0.From - (1:Int))) (if e_1 < (IntKind.i64.wrap (e_2 + (1:Int))) then (IntKind.i64.wrap (e_2 + (1:Int))) else e_1)
    try simp only [EV,EVt, *] at this
    refine yap [] yao (yau _) (yb (Wp.seq (Wp.reg ?_)))
    replace h:=yx h; obtain ⟨r0_1,g8,h⟩:=h
    refine ycy (yp (zuz g8) (yf _)) (yb (Wp.seq ?_))
    replace h:=yx h; obtain ⟨e_3,g9,h⟩:=h
    replace h:=yx h; obtain ⟨r0_2,g10,h⟩:=h
    have:=ycr (n:=1) (id:=4) (ex:=false) (k:=.i64) g9 rfl
    have:=ydw (c:=(ci .i64)) g9
    refine yap [] yao (ybk 13 (yp (zbr g10) (yf _)) (yau _)) (yb ?_)
    replace h:=ifS h; rcases h with ⟨g11,h⟩ | ⟨g11,h⟩
    ·replace h:=yah h; subst h
     refine yab (Wp.ret (yax ?_))
     exact ycl [.cell 0 8 .frz,.kill [0,3,4,20,25,92],.tidy]
    ·refine yaa (Wp.skip (yb ?_))
     exact yt [.kill [4,20,25,92],.tidy] (zra h)
   ·refine yaa ?_
    replace h:=yx h; obtain ⟨e_4,g12,h⟩:=h
    replace h:=yx h; obtain ⟨e_5,g13,h⟩:=h
    have:=ycr (n:=1) (id:=5) (ex:=false) (k:=.i64) g12 rfl
    have:=ydw (c:=(ci .i64)) g12
    have:=ycr (n:=1) (id:=4) (ex:=false) (k:=.i64) g13 rfl
    have:=ydw (c:=(ci .i64)) g13
    have:=ygk (ci .i64) m.ya.Next (IntKind.i64.wrap (x0.From - (1:Int))) (if (IntKind.i64.wrap (e_4 + (1:Int))) < (IntKind.i64.wrap ((if x0.At < (IntKind.i64.wrap (e_5 - (2:Int))) then x0.At else (IntKind.i64.wrap (e_5 - (2:Int)))) + (1:Int))) then (IntKind.i64.wrap ((if x0.At < (IntKind.i64.wrap (e_5 - (2:Int))) then x0.At else (IntKind.i64.wrap (e_5 - (2:Int)))) + (1:Int))) else (IntKind.i64.wrap (e_4 + (1:Int))))
    try simp only [EV,EVt, *] at this
    refine yap [] yao (yau _) (yb ?_)
    exact yt [.kill [4,20,25],.tidy] (zra h)
theorem zyb{x0:yg}{m:yd}{r:yd} (h:zgp x0 m=some r):yag Pg 58 [.ptr 0 0,.agg [.int .i64 x0.yar,.int .i64 x0.yct,.int .i64 x0.From,.int .i64 x0.To,.int .i64 x0.Term,.int .i64 x0.At,.int .i64 x0.ybd,.int .i64 x0.yl,.bool x0.Ok,sl yc.c x0.Entries,sl (ci .u8) x0.ybq]] (hs9 m) 7 (.tup []) (yqz r) 8:=by
  refine yag.intro Tryz.func58 yblh (yad rfl) ?_
  show Wp Pg 127 7 ybbj ⟨yal _ ybbk,[],_,_⟩ (yabv r)
  unfold zgp at h
  unfold ybbj
  refine yai [.movc 0 16,.movc 0 8] ?_
  refine Wp.seq (yh (yb (Wp.seq (Wp.seq ?_))))
  replace h:=ifS h; rcases h with ⟨g1,h⟩ | ⟨g1,h⟩
  ·refine yap [] yao (yau _) (yb ?_)
   exact yt [.kill [1,4,25,92],.tidy] (zqz h)
  ·refine yap [] yao (yau _) (yb ?_)
   exact yt [.kill [1,4,25,92],.tidy] (zqz h)
noncomputable abbrev ydsp(r:(yz × Int)):Ex→St→Prop:=yay 0 [.cell 4 true 3,.tmp 5] (.tup [.agg [.int .i64 r.1.yn,.int .i64 r.1.yi,sl yc.c r.1.Entries],.int .i64 r.2]) [] 0
theorem zvd{l:yz}{at0:Int}{r:(yz × Int)} (h:zlf l at0=some r):yag Pg 35 [.agg [.int .i64 l.yn,.int .i64 l.yi,sl yc.c l.Entries],.int .i64 at0] [] 0 (.tup [.agg [.int .i64 r.1.yn,.int .i64 r.1.yi,sl yc.c r.1.Entries],.int .i64 r.2]) [] 0:=by
  refine yag.intro Tryz.func35 ybki (yad rfl) ?_
  show Wp Pg 28 0 ybam ⟨yal _ yban,[],_,_⟩ (ydsp r)
  unfold zlf at h
  unfold ybam
  refine yai [] ?_
  refine Wp.seq (yh (yb (Wp.seq (Wp.reg ?_))))
  replace h:=yx h; obtain ⟨r0,g1,h⟩:=h
  refine yaq 3 (yp (zdq g1) (yf _)) ?_
  refine yak (yf _) (yb (Wp.seq (Wp.seq ?_)))
  refine yh (yb ?_)
  replace h:=ifS h; rcases h with ⟨g2,h⟩ | ⟨g2,h⟩
  ·refine yaa (Wp.skip (yb (Wp.seq (Wp.reg ?_))))
   replace h:=yx h; obtain ⟨l_1,g3,h⟩:=h
   replace h:=yx h; obtain ⟨r0_1,g4,h⟩:=h
   replace h:=yah h; subst h
   refine yew 10 (yp (zps g4) (yf _)) ?_
   refine yak (yf _) (yb ?_)
   refine yai [.cell 4 2 .frz] (Wp.ret ?_)
   exact yan
  ·replace h:=yah h; subst h
   refine yab (Wp.seq ?_)
   refine yh (yb ?_)
   refine yai [.cell 4 2 .frz] (Wp.ret (yax ?_))
   exact yan
noncomputable abbrev ycdi(r:yz):Ex→St→Prop:=yay 0 [.cell 6 true 3] (.agg [.int .i64 r.yn,.int .i64 r.yi,sl yc.c r.Entries]) [] 0
theorem zua{l:yz}{at0 term:Int}{v22:Bool}{r:yz} (h:zmv l at0 term v22=some r):Wp Pg 33 0 (.cond (.t 22) (.seq (.reg none ybpa) (.seq (.reg none ybpb) .ret)) .skip) ⟨[(0,.bad),(1,.int .i64 at0),(2,.int .i64 term),(3,.ptr 0 0),(6,.ptr 1 0),(7,.bad),(8,.bad),(9,.bad),(22,.bool v22)],[],[(0,.box [.int .i64 l.yn,.int .i64 l.yi,sl yc.c l.Entries]),(1,.box [.int .i64 (0:Int),.int .i64 (0:Int),.nil])],2⟩ (yav Pg 33 0 (.seq (.reg none ybpc) .ret) (ycdi r)):=by
  unfold zmv at h
  replace h:=ifS h; rcases h with ⟨g3,h⟩ | ⟨g3,h⟩
  ·refine yab (Wp.seq (Wp.reg ?_))
   replace h:=yx h; obtain ⟨r0_1,g4,h⟩:=h
   replace h:=yah h; subst h
   refine yaq 3 (yp (zvd g4) (yf _)) ?_
   refine yak (yf _) (yb (Wp.seq ?_))
   refine yh (yb (Wp.ret (yax ?_)))
   exact yan
  ·replace h:=yah h; subst h
   refine yaa (Wp.skip (yb (Wp.seq ?_)))
   refine yh (yb ?_)
   refine yai [.cell 6 2 .frz] (Wp.ret ?_)
   exact yan
theorem zaci{l:yz}{at0:Int}{term:Int}{r:yz} (h:zqd l at0 term=some r):yag Pg 96 [.agg [.int .i64 l.yn,.int .i64 l.yi,sl yc.c l.Entries],.int .i64 at0,.int .i64 term] [] 0 (.agg [.int .i64 r.yn,.int .i64 r.yi,sl yc.c r.Entries]) [] 0:=by
  refine yag.intro Tryz.func96 ybpd (yad rfl) ?_
  show Wp Pg 33 0 ybdw ⟨yal _ ybdx,[],_,_⟩ (ycdi r)
  unfold zqd at h
  unfold ybdw
  refine yai [] ?_
  refine Wp.seq (yh (yb (Wp.seq (Wp.seq (Wp.reg ?_)))))
  replace h:=yx h; obtain ⟨r0,g1,h⟩:=h
  refine yaq 3 (yp (zdq g1) (yf _)) ?_
  refine yak (yf _) (yb (Wp.seq ?_))
  replace h:=ifS h; rcases h with ⟨g2,h⟩ | ⟨g2,h⟩
  ·refine yh (yb ?_)
   exact yt [.kill [0,7,8,9],.tidy] (zua h)
  ·refine yh (yb ?_)
   exact yt [.kill [0,7,8,9],.tidy] (zua h)
noncomputable abbrev yaqv(r:yd):Ex→St→Prop:=yay 7 [] (.tup []) (zadh r) 12
theorem zqx{x0:yg}{r0:(Bool × yd)}{m_60 m_70:Int}{m_80:(List yc)}{m_90:Int}{zd:(List Int)}{r:yd} (h:zeh x0 r0 m_60 m_70 m_80 m_90 zd=some r):Wp Pg 58 7 (.reg (some []) ybli) ⟨[(0,.ptr 0 0),(1,.bad),(3,.ptr 12 0),(7,.bad),(15,.bad)],[],(zaeb r0.2 x0 m_60 m_70 m_80 m_90 zd),13⟩ (yaqv r):=by
  unfold zeh at h
  replace h:=yx h; obtain ⟨r0_2,g6,h⟩:=h
  replace h:=yah h; subst h
  refine yap [76] yao (ybk 14 (yp (zqw g6) (yf _)) (yau _)) ?_
  exact ycl [.kill [0,3],.drop [1],.tidy]
theorem zxz{x0:yg}{m:yd}{r:yd} (h:zgn x0 m=some r):yag Pg 59 [.ptr 0 0,.agg [.int .i64 x0.yar,.int .i64 x0.yct,.int .i64 x0.From,.int .i64 x0.To,.int .i64 x0.Term,.int .i64 x0.At,.int .i64 x0.ybd,.int .i64 x0.yl,.bool x0.Ok,sl yc.c x0.Entries,sl (ci .u8) x0.ybq]] (hs9 m) 7 (.tup []) (zadh r) 12:=by
  refine yag.intro Tryz.func59 yblj (yad rfl) ?_
  show Wp Pg 58 7 ybbl ⟨yal _ ybbm,[],_,_⟩ (yaqv r)
  unfold zgn at h
  unfold ybbl
  refine yai [.movc 0 10,.movc 0 11,.movc 0 12,.movc 0 13,.movc 0 16] ?_
  refine Wp.seq (yh (yb (Wp.seq (Wp.seq (Wp.reg ?_)))))
  replace h:=yx h; obtain ⟨r0,g1,h⟩:=h
  refine yew 3 (yp (zsc g1) (yf _)) ?_
  refine yak (yf _) (yb ?_)
  replace h:=ifS h; rcases h with ⟨g2,h⟩ | ⟨g2,h⟩
  ·refine yaa (Wp.skip (yb (Wp.seq (Wp.seq ?_))))
   refine yap [] yao (yau _) (yb ?_)
   replace h:=ifS h; rcases h with ⟨g3,h⟩ | ⟨g3,h⟩
   ·refine yab ?_
    replace h:=yx h; obtain ⟨r0_1,g4,h⟩:=h
    replace h:=ycw h; obtain ⟨g5,h⟩:=h
    refine yap [] yao (ybk 12 (yp (zaci g4) (yf _)) (yau _)) (yb ?_)
    exact yt [.kill [1,7,15],.tidy] (zqx h)
   ·refine yaa (Wp.skip (yb ?_))
    exact yt [.kill [1,7,15],.cell 0 8 .frz,.tidy] (zqx h)
  ·replace h:=yah h; subst h
   refine yab (Wp.ret (yax ?_))
   exact ycl [.cell 0 8 .frz,.kill [0,1,3,7,15],.drop [1],.tidy]
noncomputable abbrev ybzx(r:ye):Ex→St→Prop:=yay 0 [.cell 6 true 16] (.agg [.int .i64 r.Id,.int .i64 r.N,.int .i64 r.Term,.int .i64 r.yac,.int .i64 r.yv,.int .i64 r.yaf,.int .i64 r.yj.yn,.int .i64 r.yj.yi,sl yc.c r.yj.Entries,.int .i64 r.yl,sl (ci .u8) r.yy,.nil,.nil,.nil,.int .i64 r.yu,.int .i64 r.yae]) [] 0
theorem zly{r0:ye}{term:Int}{lead:Int}{r:ye} (h:zfh r0 term lead=some r):yag Pg 60 [.agg [.int .i64 r0.Id,.int .i64 r0.N,.int .i64 r0.Term,.int .i64 r0.yac,.int .i64 r0.yv,.int .i64 r0.yaf,.int .i64 r0.yj.yn,.int .i64 r0.yj.yi,sl yc.c r0.yj.Entries,.int .i64 r0.yl,sl (ci .u8) r0.yy,sl cb r0.ym,sl (ci .i64) r0.Next,sl (ci .i64) r0.yr,.int .i64 r0.yu,.int .i64 r0.yae],.int .i64 term,.int .i64 lead] [] 0 (.agg [.int .i64 r.Id,.int .i64 r.N,.int .i64 r.Term,.int .i64 r.yac,.int .i64 r.yv,.int .i64 r.yaf,.int .i64 r.yj.yn,.int .i64 r.yj.yi,sl yc.c r.yj.Entries,.int .i64 r.yl,sl (ci .u8) r.yy,.nil,.nil,.nil,.int .i64 r.yu,.int .i64 r.yae]) [] 0:=by
  refine yag.intro Tryz.func60 yblk (yad rfl) ?_
  show Wp Pg 36 0 ybbn ⟨yal _ ybbo,[],_,_⟩ (ybzx r)
  unfold zfh at h
  unfold ybbn
  refine yai [] ?_
  refine Wp.seq (yh (yb (Wp.seq ?_)))
  refine yh (yb (Wp.seq (Wp.seq ?_)))
  refine yh (yb ?_)
  replace h:=ifS h; rcases h with ⟨g1,h⟩ | ⟨g1,h⟩
  ·replace h:=yah h; subst h
   refine yab (Wp.seq ?_)
   refine yh (yb ?_)
   refine yh (yb (Wp.seq ?_))
   refine yh (yb (Wp.ret ?_))
   exact ycl [.kill [0,1,2,3,7,31],.tidy]
  ·replace h:=yah h; subst h
   refine yaa (Wp.skip (yb (Wp.seq ?_)))
   refine yh (yb (Wp.ret ?_))
   exact ycl [.kill [0,1,2,3,7,31],.tidy]
noncomputable abbrev yccy(r:(ye × Int)):Ex→St→Prop:=yay 0 [.cell 4 true 16,.tmp 5] (.tup [.agg [.int .i64 r.1.Id,.int .i64 r.1.N,.int .i64 r.1.Term,.int .i64 r.1.yac,.int .i64 r.1.yv,.int .i64 r.1.yaf,.int .i64 r.1.yj.yn,.int .i64 r.1.yj.yi,sl yc.c r.1.yj.Entries,.int .i64 r.1.yl,sl (ci .u8) r.1.yy,sl cb r.1.ym,sl (ci .i64) r.1.Next,sl (ci .i64) r.1.yr,.int .i64 r.1.yu,.int .i64 r.1.yae],.int .i64 r.2]) [] 0
theorem zpt{id n0:Int}{v20:Bool}{r:(ye × Int)} (h:zke id n0 v20=some r):Wp Pg 27 0 (.cond (.t 20) (.seq (.reg none ybie) .ret) .skip) ⟨[(0,.int .i64 id),(1,.int .i64 n0),(4,.ptr 0 0),(5,.bad),(20,.bool v20)],[],(hp3 (0:Int) (0:Int) (0:Int) (0:Int) (0:Int) (0:Int) (0:Int) (0:Int) (0:Int) (0:Int) (0:Int)),1⟩ (yav Pg 27 0 (.seq (.reg none ybif) .ret) (yccy r)):=by
  unfold zke at h
  replace h:=ifS h; rcases h with ⟨g4,h⟩ | ⟨g4,h⟩
  ·replace h:=yah h; subst h
   refine yab (Wp.seq ?_)
   refine yh (yb ?_)
   refine yai [.cell 4 8 .frz,.cell 4 10 .frz,.cell 4 11 .frz,.cell 4 12 .frz,.cell 4 13 .frz] (Wp.ret (yax ?_))
   exact yan
  ·replace h:=yah h; subst h
   refine yaa (Wp.skip (yb (Wp.seq ?_)))
   refine yh (yb ?_)
   refine yai [.cell 4 8 .frz,.cell 4 10 .frz,.cell 4 11 .frz,.cell 4 12 .frz,.cell 4 13 .frz] (Wp.ret ?_)
   exact yan
theorem zzq{id:Int}{n0:Int}{r:(ye × Int)} (h:zqp id n0=some r):yag Pg 10 [.int .i64 id,.int .i64 n0] [] 0 (.tup [.agg [.int .i64 r.1.Id,.int .i64 r.1.N,.int .i64 r.1.Term,.int .i64 r.1.yac,.int .i64 r.1.yv,.int .i64 r.1.yaf,.int .i64 r.1.yj.yn,.int .i64 r.1.yj.yi,sl yc.c r.1.yj.Entries,.int .i64 r.1.yl,sl (ci .u8) r.1.yy,sl cb r.1.ym,sl (ci .i64) r.1.Next,sl (ci .i64) r.1.yr,.int .i64 r.1.yu,.int .i64 r.1.yae],.int .i64 r.2]) [] 0:=by
  refine yag.intro Tryz.func10 ybig (yad rfl) ?_
  show Wp Pg 27 0 yayy ⟨yal _ yayz,[],_,_⟩ (yccy r)
  unfold zqp at h
  unfold yayy
  refine yai [] ?_
  refine Wp.seq (yh (yb (Wp.seq (Wp.seq ?_))))
  replace h:=ifS h; rcases h with ⟨g1,h⟩ | ⟨g1,h⟩
  ·refine yh (yb ?_)
   exact yt [.kill [5]] (zpt h)
  ·replace h:=ifS h; rcases h with ⟨g2,h⟩ | ⟨g2,h⟩
   ·refine yh (yb ?_)
    exact yt [.kill [5]] (zpt h)
   ·replace h:=ifS h; rcases h with ⟨g3,h⟩ | ⟨g3,h⟩
    ·refine yh (yb ?_)
     exact yt [.kill [5]] (zpt h)
    ·refine yh (yb ?_)
     exact yt [.kill [5]] (zpt h)
noncomputable abbrev yxk(r:Bool):Ex→St→Prop:=yay 0 [.tmp 2] (.bool r) [] 0
noncomputable abbrev zro(l:(List Bool))(rec0:Int→Int→Int→Option Bool)(r:Bool):Prop:=∀ {yes no i:Int},rec0 yes no i=some r→LWp Pg 23 0 ytc ⟨[(0,sl cb l),(2,.bad),(3,.int .i64 yes),(4,.int .i64 no),(5,.int .i64 i),(9,.bad),(15,.bad)],[],[],0⟩ (yam 0 (yav Pg 23 0 (.seq (.reg none ytd) .ret) (yxk r)))
theorem zabf{yes_2 no_2:Int}{r:Bool} (h:zqr yes_2 no_2=some r):Wp Pg 23 0 (.seq (.reg none ytd) .ret) ⟨[(0,.bad),(2,.bad),(3,.int .i64 yes_2),(4,.int .i64 no_2),(5,.bad),(9,.bad),(15,.bad)],[],[],0⟩ (yxk r):=by
  unfold zqr at h
  replace h:=yah h; subst h
  refine Wp.seq (yh (yb (Wp.ret ?_)))
  exact yan
theorem zvq{l:(List Bool)}{i yes_1 no_1:Int}{r:Bool}{zbo:Int→Int→Int→Option Bool}(zmb:zro l zbo r)(h:zoc zbo i yes_1 no_1=some r):Wp Pg 23 0 (.reg none yauk) ⟨[(0,sl cb l),(2,.bad),(3,.int .i64 yes_1),(4,.int .i64 no_1),(5,.int .i64 i),(9,.bad),(15,.bad)],[],[],0⟩ (ydl Pg 23 0 ytc (yam 0 (yav Pg 23 0 (.seq (.reg none ytd) .ret) (yxk r)))):=by
  unfold zoc at h
  refine yh (ydk ?_)
  exact ybl [] (zmb h)
theorem zzu{l:(List Bool)}{r:Bool} {zbo:Int→Int→Int→Option Bool}(zmb:zro l zbo r){yes no i:Int}(h:zlt l zbo yes no i=some r):LWp Pg 23 0 ytc ⟨[(0,sl cb l),(2,.bad),(3,.int .i64 yes),(4,.int .i64 no),(5,.int .i64 i),(9,.bad),(15,.bad)],[],[],0⟩ (yam 0 (yav Pg 23 0 (.seq (.reg none ytd) .ret) (yxk r))):=by
  unfold zlt at h
  refine LWp.stepC ytc.eq_1 ?_
  refine Wp.seq (Wp.seq (yh (yb ?_)))
  replace h:=ifS h; rcases h with ⟨g1,h⟩ | ⟨g1,h⟩
  ·refine yab (Wp.skip (yb (Wp.seq (Wp.block (Wp.seq ?_)))))
   replace h:=yx h; obtain ⟨e,g2,h⟩:=h
   refine yh (yb ?_)
   replace h:=ifS h; rcases h with ⟨g3,h⟩ | ⟨g3,h⟩
   ·refine yab ?_
    refine yh (ybh (yb ?_))
    exact yt [.kill [9,15]] (zvq (l:=l) zmb h)
   ·refine yaa ?_
    refine yh (ybh (yb ?_))
    exact yt [.kill [9,15]] (zvq (l:=l) zmb h)
  ·refine yaa (Wp.out (ydy (ydi (ycn (yb ?_)))))
   exact yt [.kill [0,5,9]] (zabf h)
theorem zabg{l:(List Bool)}{r:Bool}:∀ (n:Nat),zro l (zgu l n) r:=by
  intro n
  induction n with
  | zero=>intro yes no i h; unfold zgu at h; cases h
  | succ n ih=>intro yes no i h; unfold zgu at h; exact zzu ih h
theorem zym{l:(List Bool)}{r:Bool} (h:zph l=some r):yag Pg 100 [sl cb l] [] 0 (.bool r) [] 0:=by
  refine yag.intro Tryz.func100 yaul (yad rfl) ?_
  show Wp Pg 23 0 yalz ⟨yal _ yama,[],_,_⟩ (yxk r)
  unfold zph at h
  unfold yalz
  refine yai [] ?_
  refine Wp.seq (yh (yb (Wp.seq ?_)))
  refine yh (yb (Wp.seq ?_))
  refine yh (yb (Wp.seq (Wp.seq ?_)))
  refine yh (yb (Wp.block (Wp.loop ?_)))
  exact ybl [.kill [2,9,15]] (zabg _ h)
noncomputable abbrev ydmb(r:(List Int)):Ex→St→Prop:=yay 0 [.tmp 6] (sl (ci .i64) r) [] 0
theorem zrl{l:(List Int)}{who:Int}{n0:Int}{r:(List Int)} (h:zle l who n0=some r):yag Pg 104 [sl (ci .i64) l,.int .i64 who,.int .i64 n0] [] 0 (sl (ci .i64) r) [] 0:=by
  refine yag.intro Tryz.func104 yaur (yad rfl) ?_
  show Wp Pg 17 0 yamt ⟨yal _ yamu,[],_,_⟩ (ydmb r)
  unfold zle at h
  unfold yamt
  refine yai [] ?_
  refine Wp.seq (yh (yb (Wp.seq ?_)))
  refine yh (yb (Wp.seq ?_))
  replace h:=ycw h; obtain ⟨g1,h⟩:=h
  refine yh (yb (Wp.seq ?_))
  replace h:=yx h; obtain ⟨e,g2,h⟩:=h
  replace h:=yah h; subst h
  have:=ycr (n:=1) (id:=0) (ex:=false) (k:=.i64) g2 rfl
  have:=ydw (c:=(ci .i64)) g2
  have:=ygk (ci .i64) l (IntKind.i64.wrap (who - (1:Int))) n0
  try simp only [EV,EVt, *] at this
  refine yh (yb (Wp.seq ?_))
  refine yh (yb ?_)
  refine yai [.at 6 .frz] (Wp.ret ?_)
  exact yan
noncomputable abbrev ydmf(r:Int):Ex→St→Prop:=yay 0 [.tmp 2] (.int .i64 r) [] 0
theorem zabe{n0:Int}{r:Int} (h:zob n0=some r):yag Pg 114 [.int .i64 n0] [] 0 (.int .i64 r) [] 0:=by
  refine yag.intro Tryz.func114 yavl (yad rfl) ?_
  show Wp Pg 15 0 yano ⟨yal _ yanp,[],_,_⟩ (ydmf r)
  unfold zob at h
  unfold yano
  refine yai [] ?_
  refine Wp.seq (yh (yb (Wp.seq (Wp.seq ?_))))
  refine yh (yb ?_)
  replace h:=ifS h; rcases h with ⟨g1,h⟩ | ⟨g1,h⟩
  ·replace h:=yah h; subst h
   refine yab (Wp.seq ?_)
   refine yh (yb (Wp.ret (yax ?_)))
   exact yan
  ·refine yaa (Wp.skip (yb (Wp.seq (Wp.seq ?_))))
   refine yh (yb ?_)
   replace h:=ifS h; rcases h with ⟨g2,h⟩ | ⟨g2,h⟩
   ·replace h:=yah h; subst h
    refine yab (Wp.seq ?_)
    refine yh (yb (Wp.ret (yax ?_)))
    exact yan
   ·replace h:=yah h; subst h
    refine yaa (Wp.skip (yb (Wp.seq ?_)))
    refine yh (yb (Wp.ret ?_))
    exact yan
noncomputable abbrev ymm(r:Int):Ex→St→Prop:=yay 0 [.tmp 2] (.int .i64 r) [] 0
noncomputable abbrev zdh(l:(List Int))(rec0:Int→Bool→Int→Option Int)(r:Int):Prop:=∀ {best:Int} {found:Bool} {i:Int},rec0 best found i=some r→LWp Pg 53 0 yjg ⟨[(0,sl (ci .i64) l),(2,.bad),(3,.int .i64 best),(4,.bool found),(5,.int .i64 i),(6,.bad),(7,.bad),(11,.bad),(17,.bad),(28,.bad),(47,.bad)],[],[],0⟩ (yam 0 (yav Pg 53 0 (.seq (.reg none yit) .ret) (ymm r)))
noncomputable abbrev zoj(l:(List Int))(best:Int)(found:Bool)(i:Int)(rec0:Int→Int→Option Int)(r:Int):Prop:=∀ {n0 k:Int},rec0 n0 k=some r→LWp Pg 53 0 ytg ⟨[(0,sl (ci .i64) l),(2,.bad),(3,.int .i64 best),(4,.bool found),(5,.int .i64 i),(6,.int .i64 n0),(7,.int .i64 k),(11,.bad),(17,.bad),(28,.bad),(47,.bad)],[],[],0⟩ (yam 2 (yav Pg 53 0 (.seq (.reg none yra) (.cond (.t 47) (.seq (.reg none ynb) (.reg none ync)) .skip)) (yam 1 (yav Pg 53 0 (.reg none ylg) (ydl Pg 53 0 yjg (yam 0 (yav Pg 53 0 (.seq (.reg none yit) .ret) (ymm r))))))))
theorem zsh{l:(List Int)}{i best_1:Int}{found_2:Bool}{r:Int}{zb:Int→Bool→Int→Option Int}(zm:zdh l zb r)(h:zgt zb i best_1 found_2=some r):Wp Pg 53 0 (.reg none ylg) ⟨[(0,sl (ci .i64) l),(2,.bad),(3,.int .i64 best_1),(4,.bool found_2),(5,.int .i64 i),(6,.bad),(7,.bad),(11,.bad),(17,.bad),(28,.bad),(47,.bad)],[],[],0⟩ (ydl Pg 53 0 yjg (yam 0 (yav Pg 53 0 (.seq (.reg none yit) .ret) (ymm r)))):=by
  unfold zgt at h
  refine yh (ydk ?_)
  exact ybl [] (zm h)
theorem zoo{l:(List Int)}{best i:Int}{found_1 v47:Bool}{r:Int}{zb:Int→Bool→Int→Option Int}(zm:zdh l zb r)(h:zci zb l best i found_1 v47=some r):Wp Pg 53 0 (.cond (.t 47) (.seq (.reg none ynb) (.reg none ync)) .skip) ⟨[(0,sl (ci .i64) l),(2,.bad),(3,.int .i64 best),(4,.bool found_1),(5,.int .i64 i),(6,.bad),(7,.bad),(11,.bad),(17,.bad),(28,.bad),(47,.bool v47)],[],[],0⟩ (yam 1 (yav Pg 53 0 (.reg none ylg) (ydl Pg 53 0 yjg (yam 0 (yav Pg 53 0 (.seq (.reg none yit) .ret) (ymm r)))))):=by
  unfold zci at h
  replace h:=ifS h; rcases h with ⟨g10,h⟩ | ⟨g10,h⟩
  ·refine yab (Wp.seq ?_)
   replace h:=yx h; obtain ⟨e_3,g11,h⟩:=h
   refine yh (yb ?_)
   refine yh (ybh (yb ?_))
   exact yt [.kill [47]] (zsh (l:=l) zm h)
  ·refine yaa (Wp.skip (ybh (yb ?_)))
   exact yt [.kill [47]] (zsh (l:=l) zm h)
theorem zyf{l:(List Int)}{best:Int}{found:Bool}{i n0_2:Int}{r:Int}{zb:Int→Bool→Int→Option Int}(zm:zdh l zb r)(h:zjh zb l best found i n0_2=some r):Wp Pg 53 0 (.seq (.reg none yra) (.cond (.t 47) (.seq (.reg none ynb) (.reg none ync)) .skip)) ⟨[(0,sl (ci .i64) l),(2,.bad),(3,.int .i64 best),(4,.bool found),(5,.int .i64 i),(6,.int .i64 n0_2),(7,.bad),(11,.bad),(17,.bad),(28,.bad),(47,.bad)],[],[],0⟩ (yam 1 (yav Pg 53 0 (.reg none ylg) (ydl Pg 53 0 yjg (yam 0 (yav Pg 53 0 (.seq (.reg none yit) .ret) (ymm r)))))):=by
  unfold zjh at h
  refine Wp.seq (Wp.reg ?_)
  replace h:=yx h; obtain ⟨r0,g6,h⟩:=h
  refine yaq 4 (yp (zabe g6) (yf _)) ?_
  replace h:=ifS h; rcases h with ⟨g7,h⟩ | ⟨g7,h⟩
  ·replace h:=ifS h; rcases h with ⟨g8,h⟩ | ⟨g8,h⟩
   ·replace h:=yx h; obtain ⟨e_2,g9,h⟩:=h
    refine yak (yf _) (yb ?_)
    exact yt [.kill [6]] (zoo zm h)
   ·refine yak (yf _) (yb ?_)
    exact yt [.kill [6]] (zoo zm h)
  ·refine yak (yf _) (yb ?_)
   exact yt [.kill [6]] (zoo zm h)
theorem zsg{l:(List Int)}{best:Int}{found:Bool}{i k n0_1:Int}{r:Int}{zaf:Int→Int→Option Int}(zig:zoj l best found i zaf r)(h:zjg zaf k n0_1=some r):Wp Pg 53 0 (.reg none yank) ⟨[(0,sl (ci .i64) l),(2,.bad),(3,.int .i64 best),(4,.bool found),(5,.int .i64 i),(6,.int .i64 n0_1),(7,.int .i64 k),(11,.bad),(17,.bad),(28,.bad),(47,.bad)],[],[],0⟩ (ydl Pg 53 0 ytg (yam 2 (yav Pg 53 0 (.seq (.reg none yra) (.cond (.t 47) (.seq (.reg none ynb) (.reg none ync)) .skip)) (yam 1 (yav Pg 53 0 (.reg none ylg) (ydl Pg 53 0 yjg (yam 0 (yav Pg 53 0 (.seq (.reg none yit) .ret) (ymm r))))))))):=by
  unfold zjg at h
  refine yh (ydk ?_)
  exact ybl [] (zig h)
theorem zwt{l:(List Int)}{best:Int}{found:Bool}{i:Int}{r:Int}{zb:Int→Bool→Int→Option Int}(zm:zdh l zb r){zaf:Int→Int→Option Int}(zig:zoj l best found i zaf r){n0 k:Int}(h:zhs zb l best found i zaf n0 k=some r):LWp Pg 53 0 ytg ⟨[(0,sl (ci .i64) l),(2,.bad),(3,.int .i64 best),(4,.bool found),(5,.int .i64 i),(6,.int .i64 n0),(7,.int .i64 k),(11,.bad),(17,.bad),(28,.bad),(47,.bad)],[],[],0⟩ (yam 2 (yav Pg 53 0 (.seq (.reg none yra) (.cond (.t 47) (.seq (.reg none ynb) (.reg none ync)) .skip)) (yam 1 (yav Pg 53 0 (.reg none ylg) (ydl Pg 53 0 yjg (yam 0 (yav Pg 53 0 (.seq (.reg none yit) .ret) (ymm r)))))))):=by
  unfold zhs at h
  refine LWp.stepC ytg.eq_1 ?_
  refine Wp.seq (Wp.seq (yh (yb ?_)))
  replace h:=ifS h; rcases h with ⟨g2,h⟩ | ⟨g2,h⟩
  ·refine yab (Wp.skip (yb (Wp.seq (Wp.block (Wp.seq ?_)))))
   replace h:=yx h; obtain ⟨e,g3,h⟩:=h
   replace h:=yx h; obtain ⟨e_1,g4,h⟩:=h
   refine yap [] yao (yau _) (yb ?_)
   replace h:=ifS h; rcases h with ⟨g5,h⟩ | ⟨g5,h⟩
   ·refine yab ?_
    refine yh (ybh (yb ?_))
    exact yt [.kill [17,28],.tidy] (zsg (l:=l) (best:=best) (found:=found) (i:=i) zig h)
   ·refine yaa (Wp.skip (ybh (yb ?_)))
    exact yt [.kill [17,28],.tidy] (zsg (l:=l) (best:=best) (found:=found) (i:=i) zig h)
  ·refine yaa (Wp.out (ydy (ydi (ycn (yb ?_)))))
   exact yt [.kill [7,17]] (zyf zm h)
theorem zyh{l:(List Int)}{best:Int}{found:Bool}{i:Int}{r:Int}{zb:Int→Bool→Int→Option Int}(zm:zdh l zb r):∀ (n:Nat),zoj l best found i (zcj zb l best found i n) r:=by
  intro n
  induction n with
  | zero=>intro n0 k h; unfold zcj at h; cases h
  | succ n ih=>intro n0 k h; unfold zcj at h; exact zwt zm ih h
theorem zws{l:(List Int)}{r:Int} {zb:Int→Bool→Int→Option Int}(zm:zdh l zb r){best:Int}{found:Bool}{i:Int}(h:zhr l zb best found i=some r):LWp Pg 53 0 yjg ⟨[(0,sl (ci .i64) l),(2,.bad),(3,.int .i64 best),(4,.bool found),(5,.int .i64 i),(6,.bad),(7,.bad),(11,.bad),(17,.bad),(28,.bad),(47,.bad)],[],[],0⟩ (yam 0 (yav Pg 53 0 (.seq (.reg none yit) .ret) (ymm r))):=by
  unfold zhr at h
  refine LWp.stepC yjg.eq_1 ?_
  refine Wp.seq (Wp.seq (yh (yb ?_)))
  replace h:=ifS h; rcases h with ⟨g1,h⟩ | ⟨g1,h⟩
  ·refine yab (Wp.skip (yb (Wp.seq (Wp.block (Wp.seq ?_)))))
   refine yh (yb (Wp.seq (Wp.seq ?_)))
   refine yh (yb (Wp.block (Wp.loop ?_)))
   exact ybl [.kill [11]] (zyh zm _ h)
  ·replace h:=yah h; subst h
   refine yaa (Wp.out (ydy (ydi (ycn (yb (Wp.seq ?_))))))
   refine yh (yb (Wp.ret ?_))
   exact yan
theorem zyg{l:(List Int)}{r:Int}:∀ (n:Nat),zdh l (zak l n) r:=by
  intro n
  induction n with
  | zero=>intro best found i h; unfold zak at h; cases h
  | succ n ih=>intro best found i h; unfold zak at h; exact zws ih h
theorem zaaq{l:(List Int)}{r:Int} (h:zmz l=some r):yag Pg 112 [sl (ci .i64) l] [] 0 (.int .i64 r) [] 0:=by
  refine yag.intro Tryz.func112 yavf (yad rfl) ?_
  show Wp Pg 53 0 yanj ⟨yal _ yanl,[],_,_⟩ (ymm r)
  unfold zmz at h
  unfold yanj
  refine yai [] ?_
  refine Wp.seq (yh (yb (Wp.seq ?_)))
  refine yh (yb (Wp.seq ?_))
  refine yh (yb (Wp.seq (Wp.seq ?_)))
  refine yh (yb (Wp.block (Wp.loop ?_)))
  exact ybl [.kill [2,6,7,11,17,28,47]] (zyg _ h)
noncomputable abbrev ybfb(r:(Int × Bool)):Ex→St→Prop:=yay 0 [.tmp 4,.tmp 5] (.tup [.int .i64 r.1,.bool r.2]) [] 0
noncomputable abbrev ztr(l:yz)(at0:Int)(rec0:Int→Option (Int × Bool))(r:(Int × Bool)):Prop:=∀ {i:Int},rec0 i=some r→LWp Pg 33 0 yaeo ⟨[(0,.bad),(1,.int .i64 at0),(2,.ptr 0 0),(4,.bad),(5,.bad),(6,.int .i64 i),(10,.bad),(17,.bad),(26,.bad)],[],[(0,.box [.int .i64 l.yn,.int .i64 l.yi,sl yc.c l.Entries])],1⟩ (yam 0 (yav Pg 33 0 (.seq (.reg none yapj) .ret) (ybfb r)))
theorem zyv{l:yz}{at0:Int}{r:(Int × Bool)} {zmd:Int→Option (Int × Bool)}(zxq:ztr l at0 zmd r){i:Int}(h:zfq l at0 zmd i=some r):LWp Pg 33 0 yaeo ⟨[(0,.bad),(1,.int .i64 at0),(2,.ptr 0 0),(4,.bad),(5,.bad),(6,.int .i64 i),(10,.bad),(17,.bad),(26,.bad)],[],[(0,.box [.int .i64 l.yn,.int .i64 l.yi,sl yc.c l.Entries])],1⟩ (yam 0 (yav Pg 33 0 (.seq (.reg none yapj) .ret) (ybfb r))):=by
  unfold zfq at h
  refine LWp.stepC yaeo.eq_1 ?_
  refine Wp.seq (Wp.seq (yh (yb ?_)))
  replace h:=ifS h; rcases h with ⟨g2,h⟩ | ⟨g2,h⟩
  ·refine yab (Wp.skip (yb (Wp.seq (Wp.block (Wp.seq ?_)))))
   refine yh (yb ?_)
   replace h:=ifS h; rcases h with ⟨g3,h⟩ | ⟨g3,h⟩
   ·refine yab (Wp.seq ?_)
    replace h:=yx h; obtain ⟨e,g4,h⟩:=h
    replace h:=yah h; subst h
    refine yh (yb (Wp.ret (ybn (yax (ymi (ybn (yax ?_)))))))
    exact yan
   ·refine yaa (Wp.skip (ybh (yb ?_)))
    refine yh (ydk ?_)
    exact ybl [.kill [17,26]] (zxq h)
  ·replace h:=yah h; subst h
   refine yaa (Wp.out (ydy (ydi (ycn (yb (Wp.seq ?_))))))
   refine yh (yb (Wp.ret ?_))
   exact yan
theorem zaao{l:yz}{at0:Int}{r:(Int × Bool)}:∀ (n:Nat),ztr l at0 (zch l at0 n) r:=by
  intro n
  induction n with
  | zero=>intro i h; unfold zch at h; cases h
  | succ n ih=>intro i h; unfold zch at h; exact zyv ih h
theorem zcv{l:yz}{at0:Int}{r:(Int × Bool)} (h:zbs l at0=some r):yag Pg 72 [.agg [.int .i64 l.yn,.int .i64 l.yi,sl yc.c l.Entries],.int .i64 at0] [] 0 (.tup [.int .i64 r.1,.bool r.2]) [] 0:=by
  refine yag.intro Tryz.func72 ybmy (yad rfl) ?_
  show Wp Pg 33 0 ybcm ⟨yal _ ybcn,[],_,_⟩ (ybfb r)
  unfold zbs at h
  unfold ybcm
  refine yai [] ?_
  refine Wp.seq (yh (yb (Wp.seq (Wp.seq ?_))))
  refine yh (yb ?_)
  replace h:=ifS h; rcases h with ⟨g1,h⟩ | ⟨g1,h⟩
  ·replace h:=yah h; subst h
   refine yab (Wp.seq ?_)
   refine yh (yb (Wp.ret (yax ?_)))
   exact yan
  ·refine yaa (Wp.skip (yb (Wp.seq (Wp.seq ?_))))
   refine yh (yb (Wp.block (Wp.loop ?_)))
   exact ybl [.kill [0,4,5,10,17,26]] (zaao _ h)
noncomputable abbrev ybri(r:Int):Ex→St→Prop:=yay 0 [.tmp 2] (.int .i64 r) [] 0
theorem zpn{r0:ye}{r0_1:Int}{v28:Bool}{r:Int} (h:zia r0 r0_1 v28=some r):Wp Pg 32 0 (.cond (.t 28) (.seq (.reg none yaus) .ret) .skip) ⟨[(0,.bad),(1,.ptr 0 0),(2,.bad),(3,.int .i64 r0_1),(4,.bad),(5,.bad),(28,.bool v28)],[],(zadk r0),1⟩ (yav Pg 32 0 (.seq (.reg none yaut) .ret) (ybri r)):=by
  unfold zia at h
  replace h:=ifS h; rcases h with ⟨g5,h⟩ | ⟨g5,h⟩
  ·replace h:=yah h; subst h
   refine yab (Wp.seq ?_)
   refine yh (yb (Wp.ret (yax ?_)))
   exact yan
  ·replace h:=yah h; subst h
   refine yaa (Wp.skip (yb (Wp.seq ?_)))
   refine yh (yb (Wp.ret ?_))
   exact yan
theorem zvs{r0:ye}{r:Int} (h:zgy r0=some r):yag Pg 105 [.agg [.int .i64 r0.Id,.int .i64 r0.N,.int .i64 r0.Term,.int .i64 r0.yac,.int .i64 r0.yv,.int .i64 r0.yaf,.int .i64 r0.yj.yn,.int .i64 r0.yj.yi,sl yc.c r0.yj.Entries,.int .i64 r0.yl,sl (ci .u8) r0.yy,sl cb r0.ym,sl (ci .i64) r0.Next,sl (ci .i64) r0.yr,.int .i64 r0.yu,.int .i64 r0.yae]] [] 0 (.int .i64 r) [] 0:=by
  refine yag.intro Tryz.func105 yauu (yad rfl) ?_
  show Wp Pg 32 0 yamv ⟨yal _ yamw,[],_,_⟩ (ybri r)
  unfold zgy at h
  unfold yamv
  refine yai [] ?_
  refine Wp.seq (yh (yb (Wp.seq (Wp.reg ?_))))
  replace h:=yx h; obtain ⟨r0_1,g1,h⟩:=h
  refine yaq 3 (yp (zaaq g1) (yf _)) ?_
  refine yak (yf _) (yb (Wp.seq (Wp.reg ?_)))
  replace h:=yx h; obtain ⟨r0_2,g2,h⟩:=h
  refine yaq 4 (yp (zcv g2) (yf _)) ?_
  refine yak (yf _) (yb (Wp.seq (Wp.seq ?_)))
  replace h:=ifS h; rcases h with ⟨g3,h⟩ | ⟨g3,h⟩
  ·replace h:=ifS h; rcases h with ⟨g4,h⟩ | ⟨g4,h⟩
   ·refine yh (yb ?_)
    exact yt [.kill [0,2,4,5]] (zpn h)
   ·refine yh (yb ?_)
    exact yt [.kill [0,2,4,5]] (zpn h)
  ·refine yh (yb ?_)
   exact yt [.kill [0,2,4,5]] (zpn h)
noncomputable abbrev yxl(r:(List yc)):Ex→St→Prop:=yay 0 [.tmp 6] (sl yc.c r) [] 0
noncomputable abbrev znn(l:yz)(at0 most:Int)(rec0:Int→(List yc)→Option (List yc))(r:(List yc)):Prop:=∀ {i:Int} {out:(List yc)},rec0 i out=some r→LWp Pg 43 0 ypv ⟨[(0,.bad),(1,.int .i64 at0),(2,.int .i64 most),(3,.ptr 0 0),(6,.bad),(7,.own 2 1 0 out.length false),(8,.int .i64 i),(12,.bad),(24,.bad),(33,.bad)],[],[(0,.box [.int .i64 l.yn,.int .i64 l.yi,sl yc.c l.Entries]),(1,.arr 2 (List.map yc.c out) 0)],2⟩ (yam 0 (yav Pg 43 0 (.seq (.reg none yte) .ret) (yxl r)))
theorem zue{l:yz}{at0 most i:Int}{out_1:(List yc)}{r:(List yc)}{zo:Int→(List yc)→Option (List yc)}(zdi:znn l at0 most zo r)(h:zmy zo i out_1=some r):Wp Pg 43 0 (.reg none yagt) ⟨[(0,.bad),(1,.int .i64 at0),(2,.int .i64 most),(3,.ptr 0 0),(6,.bad),(7,.own 2 1 0 out_1.length false),(8,.int .i64 i),(12,.bad),(24,.bad),(33,.bad)],[],[(0,.box [.int .i64 l.yn,.int .i64 l.yi,sl yc.c l.Entries]),(1,.arr 2 (List.map yc.c out_1) 0)],2⟩ (ydl Pg 43 0 ypv (yam 0 (yav Pg 43 0 (.seq (.reg none yte) .ret) (yxl r)))):=by
  unfold zmy at h
  refine yh (ydk ?_)
  exact ybl [] (zdi h)
theorem zud{most:Int}{l:yz}{at0 i:Int}{out:(List yc)}{v24:Bool}{r:(List yc)}{zo:Int→(List yc)→Option (List yc)}(zdi:znn l at0 most zo r)(h:zjv zo l at0 i out v24=some r):Wp Pg 43 0 (.cond (.t 24) .skip (.out 0)) ⟨[(0,.bad),(1,.int .i64 at0),(2,.int .i64 most),(3,.ptr 0 0),(6,.bad),(7,.own 2 1 0 out.length false),(8,.int .i64 i),(12,.bad),(24,.bool v24),(33,.bad)],[],[(0,.box [.int .i64 l.yn,.int .i64 l.yi,sl yc.c l.Entries]),(1,.arr 2 (List.map yc.c out) 0)],2⟩ (yav Pg 43 0 (.seq (.block 1 (.seq (.reg none yauv) (.cond (.t 33) (.reg none yauw) .skip))) (.reg none yagt)) (ydl Pg 43 0 ypv (yam 0 (yav Pg 43 0 (.seq (.reg none yte) .ret) (yxl r))))):=by
  unfold zjv at h
  replace h:=ifS h; rcases h with ⟨g3,h⟩ | ⟨g3,h⟩
  ·refine yab (Wp.skip (yb (Wp.seq (Wp.block (Wp.seq ?_)))))
   refine yh (yb ?_)
   replace h:=ifS h; rcases h with ⟨g4,h⟩ | ⟨g4,h⟩
   ·refine yab ?_
    replace h:=yx h; obtain ⟨e,g5,h⟩:=h
    replace h:=ycw h; obtain ⟨g6,h⟩:=h
    refine yh (ybh (yb ?_))
    exact yt [.kill [24,33],.tidy] (zue (l:=l) (at0:=at0) (most:=most) zdi h)
   ·refine yaa (Wp.skip (ybh (yb ?_)))
    exact yt [.kill [24,33]] (zue (l:=l) (at0:=at0) (most:=most) zdi h)
  ·replace h:=yah h; subst h
   refine yaa (Wp.out (ydy (ydi (ycn (yb (Wp.seq ?_))))))
   refine yh (yb ?_)
   refine yai [.at 6 .frz] (Wp.ret ?_)
   exact yan
theorem zyu{l:yz}{at0 most:Int}{r:(List yc)} {zo:Int→(List yc)→Option (List yc)}(zdi:znn l at0 most zo r){i:Int}{out:(List yc)}(h:zki l at0 most zo i out=some r):LWp Pg 43 0 ypv ⟨[(0,.bad),(1,.int .i64 at0),(2,.int .i64 most),(3,.ptr 0 0),(6,.bad),(7,.own 2 1 0 out.length false),(8,.int .i64 i),(12,.bad),(24,.bad),(33,.bad)],[],[(0,.box [.int .i64 l.yn,.int .i64 l.yi,sl yc.c l.Entries]),(1,.arr 2 (List.map yc.c out) 0)],2⟩ (yam 0 (yav Pg 43 0 (.seq (.reg none yte) .ret) (yxl r))):=by
  unfold zki at h
  refine LWp.stepC ypv.eq_1 ?_
  refine Wp.seq (Wp.seq ?_)
  replace h:=ifS h; rcases h with ⟨g2,h⟩ | ⟨g2,h⟩
  ·refine yh (yb ?_)
   exact yt [] (zud (most:=most) zdi h)
  ·refine yh (yb ?_)
   exact yt [] (zud (most:=most) zdi h)
theorem zaan{l:yz}{at0 most:Int}{r:(List yc)}:∀ (n:Nat),znn l at0 most (zfu l at0 most n) r:=by
  intro n
  induction n with
  | zero=>intro i out h; unfold zfu at h; cases h
  | succ n ih=>intro i out h; unfold zfu at h; exact zyu ih h
theorem zsy{l:yz}{at0:Int}{most:Int}{r:(List yc)} (h:zeq l at0 most=some r):yag Pg 106 [.agg [.int .i64 l.yn,.int .i64 l.yi,sl yc.c l.Entries],.int .i64 at0,.int .i64 most] [] 0 (sl yc.c r) [] 0:=by
  refine yag.intro Tryz.func106 yaux (yad rfl) ?_
  show Wp Pg 43 0 yamx ⟨yal _ yamy,[],_,_⟩ (yxl r)
  unfold zeq at h
  unfold yamx
  refine yai [] ?_
  refine Wp.seq (yh (yb (Wp.seq ?_)))
  refine yh (yb (Wp.seq (Wp.seq ?_)))
  refine yh (yb ?_)
  replace h:=ifS h; rcases h with ⟨g1,h⟩ | ⟨g1,h⟩
  ·replace h:=yah h; subst h
   refine yab (Wp.seq ?_)
   refine yh (yb ?_)
   refine yai [.at 6 .frz] (Wp.ret (yax ?_))
   exact yan
  ·refine yaa (Wp.skip (yb (Wp.seq (Wp.seq ?_))))
   refine yh (yb (Wp.block (Wp.loop ?_)))
   exact ybl [.kill [0,6,12,24,33],.at 7 (.virt 2),.tidy] (zaan _ h)
noncomputable abbrev ydta(r:yg):Ex→St→Prop:=yay 0 [.cell 4 true 11] (.agg [.int .i64 r.yar,.int .i64 r.yct,.int .i64 r.From,.int .i64 r.To,.int .i64 r.Term,.int .i64 r.At,.int .i64 r.ybd,.int .i64 r.yl,.bool r.Ok,sl yc.c r.Entries,sl (ci .u8) r.ybq]) [] 0
theorem zsz{r0:ye}{to0:Int}{r:yg} (h:zjm r0 to0=some r):yag Pg 89 [.agg [.int .i64 r0.Id,.int .i64 r0.N,.int .i64 r0.Term,.int .i64 r0.yac,.int .i64 r0.yv,.int .i64 r0.yaf,.int .i64 r0.yj.yn,.int .i64 r0.yj.yi,sl yc.c r0.yj.Entries,.int .i64 r0.yl,sl (ci .u8) r0.yy,sl cb r0.ym,sl (ci .i64) r0.Next,sl (ci .i64) r0.yr,.int .i64 r0.yu,.int .i64 r0.yae],.int .i64 to0] [] 0 (.agg [.int .i64 r.yar,.int .i64 r.yct,.int .i64 r.From,.int .i64 r.To,.int .i64 r.Term,.int .i64 r.At,.int .i64 r.ybd,.int .i64 r.yl,.bool r.Ok,sl yc.c r.Entries,sl (ci .u8) r.ybq]) [] 0:=by
  refine yag.intro Tryz.func89 ybnr (yad rfl) ?_
  show Wp Pg 59 0 ybdi ⟨yal _ ybdj,[],_,_⟩ (ydta r)
  unfold zjm at h
  unfold ybdi
  refine yai [] ?_
  refine Wp.seq (yh (yb (Wp.seq ?_)))
  replace h:=yx h; obtain ⟨e,g1,h⟩:=h
  refine yh (yb (Wp.seq ?_))
  refine yh (yb (Wp.seq (Wp.seq ?_)))
  refine yh (yb ?_)
  replace h:=ifS h; rcases h with ⟨g2,h⟩ | ⟨g2,h⟩
  ·replace h:=yah h; subst h
   refine yab (Wp.seq ?_)
   refine yh (yb (Wp.seq ?_))
   refine yh (yb (Wp.seq ?_))
   refine yh (yb (Wp.seq ?_))
   refine yh (yb (Wp.seq ?_))
   refine yh (yb ?_)
   refine yai [.cell 4 9 .frz] (Wp.ret (yax ?_))
   exact yan
  ·refine yaa (Wp.skip (yb (Wp.seq (Wp.reg ?_))))
   replace h:=yx h; obtain ⟨r0_1,g3,h⟩:=h
   refine yaq 5 (yp (zcv g3) (yf _)) ?_
   refine yak (yf _) (yb (Wp.seq ?_))
   refine yh (yb (Wp.seq (Wp.reg ?_)))
   replace h:=yx h; obtain ⟨r0_2,g4,h⟩:=h
   replace h:=yah h; subst h
   refine yaq 4 (yp (zsy g4) (yf _)) ?_
   refine yak (yf _) (yb (Wp.seq ?_))
   refine yh (yb ?_)
   refine yai [.cell 4 10 .frz] (Wp.ret ?_)
   exact yan
noncomputable abbrev yakb(r:(List yg)):Ex→St→Prop:=yay 0 [.tmp 2] (sl yg.c r) [] 0
noncomputable abbrev zok(r0:ye)(rec0:Int→(List yg)→Option (List yg))(r:(List yg)):Prop:=∀ {to0:Int} {out:(List yg)},rec0 to0 out=some r→LWp Pg 22 0 yww ⟨[(0,.bad),(1,.ptr 0 0),(2,.bad),(3,.own 11 1 0 out.length false),(4,.int .i64 to0),(8,.bad),(14,.bad)],[],(zxu r0 out),2⟩ (yam 0 (yav Pg 22 0 (.seq (.reg none yaed) .ret) (yakb r)))
theorem zsq{r0:ye}{to0:Int}{out_1:(List yg)}{r:(List yg)}{zag:Int→(List yg)→Option (List yg)}(zih:zok r0 zag r)(h:zjn zag to0 out_1=some r):Wp Pg 22 0 (.reg none ybkl) ⟨[(0,.bad),(1,.ptr 0 0),(2,.bad),(3,.own 11 1 0 out_1.length false),(4,.int .i64 to0),(8,.bad),(14,.bad)],[],(zxu r0 out_1),2⟩ (ydl Pg 22 0 yww (yam 0 (yav Pg 22 0 (.seq (.reg none yaed) .ret) (yakb r)))):=by
  unfold zjn at h
  refine yh (ydk ?_)
  exact ybl [] (zih h)
theorem zwu{r0:ye}{r:(List yg)} {zag:Int→(List yg)→Option (List yg)}(zih:zok r0 zag r){to0:Int}{out:(List yg)}(h:zky r0 zag to0 out=some r):LWp Pg 22 0 yww ⟨[(0,.bad),(1,.ptr 0 0),(2,.bad),(3,.own 11 1 0 out.length false),(4,.int .i64 to0),(8,.bad),(14,.bad)],[],(zxu r0 out),2⟩ (yam 0 (yav Pg 22 0 (.seq (.reg none yaed) .ret) (yakb r))):=by
  unfold zky at h
  refine LWp.stepC yww.eq_1 ?_
  refine Wp.seq (Wp.seq (yh (yb ?_)))
  replace h:=ifS h; rcases h with ⟨g1,h⟩ | ⟨g1,h⟩
  ·refine yab (Wp.skip (yb (Wp.seq (Wp.block (Wp.seq ?_)))))
   refine yh (yb ?_)
   replace h:=ifS h; rcases h with ⟨g2,h⟩ | ⟨g2,h⟩
   ·refine yab (Wp.reg ?_)
    replace h:=yx h; obtain ⟨r0_1,g3,h⟩:=h
    refine yaq 4 (yp (zsz g3) (yf _)) ?_
    replace h:=ycw h; obtain ⟨g4,h⟩:=h
    refine yak (yf _) (ybh (yb ?_))
    exact yt [.kill [8,14],.tidy] (zsq (r0:=r0) zih h)
   ·refine yaa (Wp.skip (ybh (yb ?_)))
    exact yt [.kill [8,14]] (zsq (r0:=r0) zih h)
  ·replace h:=yah h; subst h
   refine yaa (Wp.out (ydy (ydi (ycn (yb (Wp.seq ?_))))))
   refine yh (yb ?_)
   refine yai [.at 2 .frz] (Wp.ret ?_)
   exact yan
theorem zyj{r0:ye}{r:(List yg)}:∀ (n:Nat),zok r0 (zcl r0 n) r:=by
  intro n
  induction n with
  | zero=>intro to0 out h; unfold zcl at h; cases h
  | succ n ih=>intro to0 out h; unfold zcl at h; exact zwu ih h
theorem zuk{r0:ye}{r:(List yg)} (h:zhv r0=some r):yag Pg 46 [.agg [.int .i64 r0.Id,.int .i64 r0.N,.int .i64 r0.Term,.int .i64 r0.yac,.int .i64 r0.yv,.int .i64 r0.yaf,.int .i64 r0.yj.yn,.int .i64 r0.yj.yi,sl yc.c r0.yj.Entries,.int .i64 r0.yl,sl (ci .u8) r0.yy,sl cb r0.ym,sl (ci .i64) r0.Next,sl (ci .i64) r0.yr,.int .i64 r0.yu,.int .i64 r0.yae]] [] 0 (sl yg.c r) [] 0:=by
  refine yag.intro Tryz.func46 ybkm (yad rfl) ?_
  show Wp Pg 22 0 ybas ⟨yal _ ybat,[],_,_⟩ (yakb r)
  unfold zhv at h
  unfold ybas
  refine yai [] ?_
  refine Wp.seq (yh (yb (Wp.seq ?_)))
  refine yh (yb (Wp.seq (Wp.seq ?_)))
  refine yh (yb (Wp.block (Wp.loop ?_)))
  exact ybl [.kill [0,2,8,14],.at 3 (.virt 11),.tidy] (zyj _ h)
noncomputable abbrev ydst(r:Int):Ex→St→Prop:=yay 0 [.tmp 2] (.int .i64 r) [] 0
theorem zdt{l:yz}{r:Int} (h:zcg l=some r):yag Pg 67 [.agg [.int .i64 l.yn,.int .i64 l.yi,sl yc.c l.Entries]] [] 0 (.int .i64 r) [] 0:=by
  refine yag.intro Tryz.func67 ybmm (yad rfl) ?_
  show Wp Pg 9 0 ybcb ⟨yal _ ybcc,[],_,_⟩ (ydst r)
  unfold zcg at h
  unfold ybcb
  refine yai [] ?_
  replace h:=yah h; subst h
  refine Wp.seq (yh (yb (Wp.seq ?_)))
  refine yh (yb (Wp.ret ?_))
  exact yan
noncomputable abbrev ydss(r:(ye × (List yg))):Ex→St→Prop:=yay 0 [.cell 4 true 16,.tmp 5] (.tup [.agg [.int .i64 r.1.Id,.int .i64 r.1.N,.int .i64 r.1.Term,.int .i64 r.1.yac,.int .i64 r.1.yv,.int .i64 r.1.yaf,.int .i64 r.1.yj.yn,.int .i64 r.1.yj.yi,sl yc.c r.1.yj.Entries,.int .i64 r.1.yl,sl (ci .u8) r.1.yy,sl cb r.1.ym,sl (ci .i64) r.1.Next,sl (ci .i64) r.1.yr,.int .i64 r.1.yu,.int .i64 r.1.yae],sl yg.c r.2]) [] 0
theorem zvr{r0:ye}{data:(List Int)}{r:(ye × (List yg))} (h:ziv r0 data=some r):yag Pg 66 [.agg [.int .i64 r0.Id,.int .i64 r0.N,.int .i64 r0.Term,.int .i64 r0.yac,.int .i64 r0.yv,.int .i64 r0.yaf,.int .i64 r0.yj.yn,.int .i64 r0.yj.yi,sl yc.c r0.yj.Entries,.int .i64 r0.yl,sl (ci .u8) r0.yy,sl cb r0.ym,sl (ci .i64) r0.Next,sl (ci .i64) r0.yr,.int .i64 r0.yu,.int .i64 r0.yae],sl (ci .u8) data] [] 0 (.tup [.agg [.int .i64 r.1.Id,.int .i64 r.1.N,.int .i64 r.1.Term,.int .i64 r.1.yac,.int .i64 r.1.yv,.int .i64 r.1.yaf,.int .i64 r.1.yj.yn,.int .i64 r.1.yj.yi,sl yc.c r.1.yj.Entries,.int .i64 r.1.yl,sl (ci .u8) r.1.yy,sl cb r.1.ym,sl (ci .i64) r.1.Next,sl (ci .i64) r.1.yr,.int .i64 r.1.yu,.int .i64 r.1.yae],sl yg.c r.2]) [] 0:=by
  refine yag.intro Tryz.func66 ybml (yad rfl) ?_
  show Wp Pg 51 0 ybbz ⟨yal _ ybca,[],_,_⟩ (ydss r)
  unfold ziv at h
  unfold ybbz
  refine yai [] ?_
  refine Wp.seq (yh (yb (Wp.seq ?_)))
  refine yh (yb (Wp.seq ?_))
  refine yh (yb (Wp.seq ?_))
  replace h:=ycw h; obtain ⟨g1,h⟩:=h
  refine yh (yb (Wp.seq ?_))
  replace h:=ycw h; obtain ⟨g2,h⟩:=h
  refine yh (yb (Wp.seq ?_))
  replace h:=yx h; obtain ⟨r0_1,g3,h⟩:=h
  replace h:=yx h; obtain ⟨r0_2,g4,h⟩:=h
  refine yap [] yao (ybk 6 (yp (zdt g3) (yf _)) (ybk 7 (yp (zrl g4) (yf _)) (yau _))) (yb (Wp.seq (Wp.reg ?_)))
  replace h:=yx h; obtain ⟨r0_3,g5,h⟩:=h
  refine yaq 2 (yp (zvs g5) (yf _)) ?_
  refine yak (yf _) (yb (Wp.seq ?_))
  replace h:=yx h; obtain ⟨r0_4,g6,h⟩:=h
  replace h:=yah h; subst h
  refine yap [] yao (ybk 2 (yp (zuk g6) (yf _)) (yau _)) (yb ?_)
  refine yai [.cell 4 8 .frz] (Wp.ret ?_)
  exact yan
noncomputable abbrev yafi(r:(ye × (List yg))):Ex→St→Prop:=yay 0 [.cell 2 true 16,.tmp 3] (.tup [.agg [.int .i64 r.1.Id,.int .i64 r.1.N,.int .i64 r.1.Term,.int .i64 r.1.yac,.int .i64 r.1.yv,.int .i64 r.1.yaf,.int .i64 r.1.yj.yn,.int .i64 r.1.yj.yi,sl yc.c r.1.yj.Entries,.int .i64 r.1.yl,sl (ci .u8) r.1.yy,sl cb r.1.ym,sl (ci .i64) r.1.Next,sl (ci .i64) r.1.yr,.int .i64 r.1.yu,.int .i64 r.1.yae],sl yg.c r.2]) [] 0
noncomputable abbrev ztu(r0 r0_1:ye)(rec0:Int→(List Int)→(List Int)→Option (ye × (List yg)))(r:(ye × (List yg))):Prop:=∀ {i:Int} {q_12 q_13:(List Int)},rec0 i q_12 q_13=some r→LWp Pg 38 0 yyn ⟨[(0,.bad),(1,.ptr 0 0),(2,.ptr 1 0),(3,.bad),(4,.ptr 2 0),(5,.int .i64 i),(17,.bad)],[],(zacy r0 r0_1 (0:Int) (0:Int) (0:Int) (0:Int) (0:Int) (0:Int) (0:Int) (0:Int) (0:Int) (0:Int) (0:Int) (3:Int) q_12 q_13 (0:Int)),5⟩ (yam 0 (yav Pg 38 0 (.seq (.reg none yyo) .ret) (yafi r)))
theorem zaay{r0_1:ye}{q_12_1 q_13_1:(List Int)}{r:(ye × (List yg))} (h:zni r0_1 q_12_1 q_13_1=some r):Wp Pg 38 0 (.seq (.reg none yyo) .ret) ⟨[(0,.bad),(1,.bad),(2,.ptr 0 0),(3,.bad),(4,.ptr 1 0),(5,.bad),(17,.bad)],[],(zadj r0_1 (0:Int) (0:Int) (0:Int) (0:Int) (0:Int) (0:Int) (0:Int) (0:Int) (0:Int) (0:Int) (0:Int) (3:Int) q_12_1 q_13_1 (0:Int)),4⟩ (yafi r):=by
  unfold zni at h
  refine Wp.seq (Wp.reg ?_)
  replace h:=yx h; obtain ⟨r0_3,g6,h⟩:=h
  replace h:=yah h; subst h
  refine yaq 2 (yp (zvr g6) (yf _)) ?_
  refine yak (yf _) (yb (Wp.ret ?_))
  exact yan
theorem zyy{r0 r0_1:ye}{r:(ye × (List yg))} {zmg:Int→(List Int)→(List Int)→Option (ye × (List yg))}(zxt:ztu r0 r0_1 zmg r){i:Int}{q_12 q_13:(List Int)}(h:zkk r0 r0_1 zmg i q_12 q_13=some r):LWp Pg 38 0 yyn ⟨[(0,.bad),(1,.ptr 0 0),(2,.ptr 1 0),(3,.bad),(4,.ptr 2 0),(5,.int .i64 i),(17,.bad)],[],(zacy r0 r0_1 (0:Int) (0:Int) (0:Int) (0:Int) (0:Int) (0:Int) (0:Int) (0:Int) (0:Int) (0:Int) (0:Int) (3:Int) q_12 q_13 (0:Int)),5⟩ (yam 0 (yav Pg 38 0 (.seq (.reg none yyo) .ret) (yafi r))):=by
  unfold zkk at h
  refine LWp.stepC yyn.eq_1 ?_
  refine Wp.seq (Wp.seq (yh (yb ?_)))
  replace h:=ifS h; rcases h with ⟨g2,h⟩ | ⟨g2,h⟩
  ·refine yab (Wp.skip (yb (Wp.seq (Wp.block (Wp.seq ?_)))))
   replace h:=yx h; obtain ⟨r0_2,g3,h⟩:=h
   replace h:=ycw h; obtain ⟨g4,h⟩:=h
   refine yap [] yao (ybk 4 (yp (zdt g3) (yf _)) (yau _)) (yb ?_)
   replace h:=ycw h; obtain ⟨g5,h⟩:=h
   refine yh (ybh (yb ?_))
   refine yh (ydk ?_)
   exact ybl [.kill [17],.tidy] (zxt h)
  ·refine yaa (Wp.out (ydy (ydi (ycn (yb ?_)))))
   exact yt [.kill [1,5,17],.tidy] (zaay h)
theorem zaaz{r0 r0_1:ye}{r:(ye × (List yg))}:∀ (n:Nat),ztu r0 r0_1 (zea r0 r0_1 n) r:=by
  intro n
  induction n with
  | zero=>intro i q_12 q_13 h; unfold zea at h; cases h
  | succ n ih=>intro i q_12 q_13 h; unfold zea at h; exact zyy ih h
theorem zxo{r0:ye}{r:(ye × (List yg))} (h:zjl r0=some r):yag Pg 101 [.agg [.int .i64 r0.Id,.int .i64 r0.N,.int .i64 r0.Term,.int .i64 r0.yac,.int .i64 r0.yv,.int .i64 r0.yaf,.int .i64 r0.yj.yn,.int .i64 r0.yj.yi,sl yc.c r0.yj.Entries,.int .i64 r0.yl,sl (ci .u8) r0.yy,sl cb r0.ym,sl (ci .i64) r0.Next,sl (ci .i64) r0.yr,.int .i64 r0.yu,.int .i64 r0.yae]] [] 0 (.tup [.agg [.int .i64 r.1.Id,.int .i64 r.1.N,.int .i64 r.1.Term,.int .i64 r.1.yac,.int .i64 r.1.yv,.int .i64 r.1.yaf,.int .i64 r.1.yj.yn,.int .i64 r.1.yj.yi,sl yc.c r.1.yj.Entries,.int .i64 r.1.yl,sl (ci .u8) r.1.yy,sl cb r.1.ym,sl (ci .i64) r.1.Next,sl (ci .i64) r.1.yr,.int .i64 r.1.yu,.int .i64 r.1.yae],sl yg.c r.2]) [] 0:=by
  refine yag.intro Tryz.func101 yaum (yad rfl) ?_
  show Wp Pg 38 0 yamb ⟨yal _ yamc,[],_,_⟩ (yafi r)
  unfold zjl at h
  unfold yamb
  refine yai [] ?_
  refine Wp.seq (yh (yb (Wp.seq (Wp.reg ?_))))
  replace h:=yx h; obtain ⟨r0_1,g1,h⟩:=h
  refine yew 6 (yp (zly g1) (yf _)) ?_
  refine yak (yf _) (yb (Wp.seq ?_))
  refine yh (yb (Wp.seq ?_))
  refine yh (yb (Wp.seq (Wp.seq ?_)))
  refine yh (yb (Wp.block (Wp.loop ?_)))
  exact ybl [.kill [0,3,17],.cell 4 12 (.virt 1),.cell 4 13 (.virt 1),.tidy] (zaaz _ h)
noncomputable abbrev ybrh(r:yz):Ex→St→Prop:=yay 0 [.cell 6 true 3] (.agg [.int .i64 r.yn,.int .i64 r.yi,sl yc.c r.Entries]) [] 0
theorem ztl{l:yz}{at0 term:Int}{v20:Bool}{r:yz} (h:zer l at0 term v20=some r):Wp Pg 34 0 (.cond (.t 20) (.seq (.reg none yaun) .ret) .skip) ⟨[(0,.bad),(1,.int .i64 at0),(2,.int .i64 term),(3,.ptr 0 0),(6,.ptr 1 0),(7,.bad),(8,.bad),(20,.bool v20)],[],[(0,.box [.int .i64 l.yn,.int .i64 l.yi,sl yc.c l.Entries]),(1,.box [.int .i64 (0:Int),.int .i64 (0:Int),.nil])],2⟩ (yav Pg 34 0 (.seq (.reg none yauo) .ret) (ybrh r)):=by
  unfold zer at h
  replace h:=ifS h; rcases h with ⟨g3,h⟩ | ⟨g3,h⟩
  ·refine yab (Wp.seq (Wp.reg ?_))
   replace h:=yx h; obtain ⟨r0_1,g4,h⟩:=h
   replace h:=yah h; subst h
   refine yaq 9 (yp (zsy g4) (yf _)) ?_
   refine yak (yf _) (yb (Wp.ret (yax ?_)))
   exact yan
  ·replace h:=yah h; subst h
   refine yaa (Wp.skip (yb (Wp.seq ?_)))
   refine yh (yb ?_)
   refine yai [.cell 6 2 .frz] (Wp.ret ?_)
   exact yan
theorem zacb{l:yz}{at0:Int}{term:Int}{r:yz} (h:zmr l at0 term=some r):yag Pg 102 [.agg [.int .i64 l.yn,.int .i64 l.yi,sl yc.c l.Entries],.int .i64 at0,.int .i64 term] [] 0 (.agg [.int .i64 r.yn,.int .i64 r.yi,sl yc.c r.Entries]) [] 0:=by
  refine yag.intro Tryz.func102 yaup (yad rfl) ?_
  show Wp Pg 34 0 yamd ⟨yal _ yame,[],_,_⟩ (ybrh r)
  unfold zmr at h
  unfold yamd
  refine yai [] ?_
  refine Wp.seq (yh (yb (Wp.seq (Wp.reg ?_))))
  replace h:=yx h; obtain ⟨r0,g1,h⟩:=h
  refine yaq 3 (yp (zcv g1) (yf _)) ?_
  refine yak (yf _) (yb (Wp.seq (Wp.seq ?_)))
  replace h:=ifS h; rcases h with ⟨g2,h⟩ | ⟨g2,h⟩
  ·refine yh (yb ?_)
   exact yt [.kill [0,7,8],.tidy] (ztl h)
  ·refine yh (yb ?_)
   exact yt [.kill [0,7,8],.tidy] (ztl h)
noncomputable abbrev yafj(r:Int):Ex→St→Prop:=yay 0 [.tmp 4] (.int .i64 r) [] 0
noncomputable abbrev zts(l:yz)(r0:(Int × Bool))(rec0:Int→Option Int)(r:Int):Prop:=∀ {k:Int},rec0 k=some r→LWp Pg 40 0 yyp ⟨[(0,.bad),(1,.bad),(2,.ptr 0 0),(4,.bad),(5,.int .i64 r0.1),(7,.int .i64 k),(8,.bad),(21,.bad),(30,.bad),(36,.bad)],[],[(0,.box [.int .i64 l.yn,.int .i64 l.yi,sl yc.c l.Entries])],1⟩ (yam 0 (yav Pg 40 0 (.seq (.seq (.reg none yyq) (.cond (.t 36) (.seq (.reg none yyr) .ret) .skip)) (.seq (.reg none yys) .ret)) (yafj r)))
theorem zuf{l:yz}{k_1:Int}{r:Int} (h:zhq l k_1=some r):Wp Pg 40 0 (.seq (.seq (.reg none yyq) (.cond (.t 36) (.seq (.reg none yyr) .ret) .skip)) (.seq (.reg none yys) .ret)) ⟨[(0,.bad),(1,.bad),(2,.ptr 0 0),(4,.bad),(5,.bad),(7,.int .i64 k_1),(8,.bad),(21,.bad),(30,.bad),(36,.bad)],[],[(0,.box [.int .i64 l.yn,.int .i64 l.yi,sl yc.c l.Entries])],1⟩ (yafj r):=by
  unfold zhq at h
  refine Wp.seq (Wp.seq (yh (yb ?_)))
  replace h:=ifS h; rcases h with ⟨g5,h⟩ | ⟨g5,h⟩
  ·replace h:=yah h; subst h
   refine yab (Wp.seq ?_)
   refine yh (yb (Wp.ret (yax ?_)))
   exact yan
  ·replace h:=yah h; subst h
   refine yaa (Wp.skip (yb (Wp.seq ?_)))
   refine yh (yb (Wp.ret ?_))
   exact yan
theorem zyw{l:yz}{r0:(Int × Bool)}{r:Int} {zme:Int→Option Int}(zxr:zts l r0 zme r){k:Int}(h:zhz l r0 zme k=some r):LWp Pg 40 0 yyp ⟨[(0,.bad),(1,.bad),(2,.ptr 0 0),(4,.bad),(5,.int .i64 r0.1),(7,.int .i64 k),(8,.bad),(21,.bad),(30,.bad),(36,.bad)],[],[(0,.box [.int .i64 l.yn,.int .i64 l.yi,sl yc.c l.Entries])],1⟩ (yam 0 (yav Pg 40 0 (.seq (.seq (.reg none yyq) (.cond (.t 36) (.seq (.reg none yyr) .ret) .skip)) (.seq (.reg none yys) .ret)) (yafj r))):=by
  unfold zhz at h
  refine LWp.stepC yyp.eq_1 ?_
  refine Wp.seq (Wp.seq (yh (yb ?_)))
  replace h:=ifS h; rcases h with ⟨g2,h⟩ | ⟨g2,h⟩
  ·refine yab (Wp.skip (yb (Wp.block (Wp.seq (Wp.reg ?_)))))
   replace h:=yx h; obtain ⟨r0_1,g3,h⟩:=h
   refine yaq 3 (yp (zcv g3) (yf _)) ?_
   refine yak (yf _) (yb (Wp.seq (Wp.seq ?_)))
   refine yh (yb ?_)
   replace h:=ifS h; rcases h with ⟨g4,h⟩ | ⟨g4,h⟩
   ·refine yab (Wp.out (ydy (ybgr rfl (ydi (ycn (yb ?_))))))
    exact yt [.kill [5,8,21,30]] (zuf h)
   ·refine yaa (Wp.skip (yb ?_))
    refine yh (ybh (ydk ?_))
    exact ybl [.kill [8,21,30]] (zxr h)
  ·refine yaa (Wp.out (ydy (ydi (ycn (yb ?_)))))
   exact yt [.kill [5,21]] (zuf h)
theorem zaap{l:yz}{r0:(Int × Bool)}{r:Int}:∀ (n:Nat),zts l r0 (zdy l r0 n) r:=by
  intro n
  induction n with
  | zero=>intro k h; unfold zdy at h; cases h
  | succ n ih=>intro k h; unfold zdy at h; exact zyw ih h
theorem zack{l:yz}{at0:Int}{r:Int} (h:zoa l at0=some r):yag Pg 110 [.agg [.int .i64 l.yn,.int .i64 l.yi,sl yc.c l.Entries],.int .i64 at0] [] 0 (.int .i64 r) [] 0:=by
  refine yag.intro Tryz.func110 yavb (yad rfl) ?_
  show Wp Pg 40 0 yanf ⟨yal _ yang,[],_,_⟩ (yafj r)
  unfold zoa at h
  unfold yanf
  refine yai [] ?_
  refine Wp.seq (yh (yb (Wp.seq (Wp.reg ?_))))
  replace h:=yx h; obtain ⟨r0,g1,h⟩:=h
  refine yaq 3 (yp (zcv g1) (yf _)) ?_
  refine yak (yf _) (yb (Wp.seq ?_))
  refine yh (yb (Wp.seq (Wp.block (Wp.loop ?_))))
  exact ybl [.kill [0,1,4,8,21,30,36]] (zaap _ h)
noncomputable abbrev yafk(r:(List yc)):Ex→St→Prop:=yay 0 [.tmp 4] (sl yc.c r) [] 0
noncomputable abbrev zrn(l:yz)(at0:Int)(rec0:Int→(List yc)→Option (List yc))(r:(List yc)):Prop:=∀ {i:Int} {out:(List yc)},rec0 i out=some r→LWp Pg 32 0 ytf ⟨[(0,.bad),(1,.int .i64 at0),(2,.ptr 0 0),(4,.bad),(5,.own 2 1 0 out.length false),(6,.int .i64 i),(20,.bad)],[],[(0,.box [.int .i64 l.yn,.int .i64 l.yi,sl yc.c l.Entries]),(1,.arr 2 (List.map yc.c out) 0)],2⟩ (yam 0 (yav Pg 32 0 (.seq (.reg none yyt) .ret) (yafk r)))
theorem zvp{at0:Int}{l:yz}{i:Int}{out:(List yc)}{v20:Bool}{r:(List yc)}{zbn:Int→(List yc)→Option (List yc)}(zma:zrn l at0 zbn r)(h:zlk zbn l i out v20=some r):Wp Pg 32 0 (.cond (.t 20) .skip (.out 0)) ⟨[(0,.bad),(1,.int .i64 at0),(2,.ptr 0 0),(4,.bad),(5,.own 2 1 0 out.length false),(6,.int .i64 i),(20,.bool v20)],[],[(0,.box [.int .i64 l.yn,.int .i64 l.yi,sl yc.c l.Entries]),(1,.arr 2 (List.map yc.c out) 0)],2⟩ (yav Pg 32 0 (.seq (.block 1 (.reg none yavc)) (.reg none yavd)) (ydl Pg 32 0 ytf (yam 0 (yav Pg 32 0 (.seq (.reg none yyt) .ret) (yafk r))))):=by
  unfold zlk at h
  replace h:=ifS h; rcases h with ⟨g2,h⟩ | ⟨g2,h⟩
  ·refine yab (Wp.skip (yb (Wp.seq (Wp.block ?_))))
   replace h:=yx h; obtain ⟨e,g3,h⟩:=h
   replace h:=ycw h; obtain ⟨g4,h⟩:=h
   refine yh (ybh (yb ?_))
   refine yh (ydk ?_)
   exact ybl [.kill [20],.tidy] (zma h)
  ·replace h:=yah h; subst h
   refine yaa (Wp.out (ydy (ydi (ycn (yb (Wp.seq ?_))))))
   refine yh (yb ?_)
   refine yai [.at 4 .frz] (Wp.ret ?_)
   exact yan
theorem zzt{l:yz}{at0:Int}{r:(List yc)} {zbn:Int→(List yc)→Option (List yc)}(zma:zrn l at0 zbn r){i:Int}{out:(List yc)}(h:zls l at0 zbn i out=some r):LWp Pg 32 0 ytf ⟨[(0,.bad),(1,.int .i64 at0),(2,.ptr 0 0),(4,.bad),(5,.own 2 1 0 out.length false),(6,.int .i64 i),(20,.bad)],[],[(0,.box [.int .i64 l.yn,.int .i64 l.yi,sl yc.c l.Entries]),(1,.arr 2 (List.map yc.c out) 0)],2⟩ (yam 0 (yav Pg 32 0 (.seq (.reg none yyt) .ret) (yafk r))):=by
  unfold zls at h
  refine LWp.stepC ytf.eq_1 ?_
  refine Wp.seq (Wp.seq ?_)
  replace h:=ifS h; rcases h with ⟨g1,h⟩ | ⟨g1,h⟩
  ·refine yh (yb ?_)
   exact yt [] (zvp (at0:=at0) zma h)
  ·refine yh (yb ?_)
   exact yt [] (zvp (at0:=at0) zma h)
theorem zabd{l:yz}{at0:Int}{r:(List yc)}:∀ (n:Nat),zrn l at0 (zgs l at0 n) r:=by
  intro n
  induction n with
  | zero=>intro i out h; unfold zgs at h; cases h
  | succ n ih=>intro i out h; unfold zgs at h; exact zzt ih h
theorem zacs{l:yz}{at0:Int}{r:(List yc)} (h:zre l at0=some r):yag Pg 111 [.agg [.int .i64 l.yn,.int .i64 l.yi,sl yc.c l.Entries],.int .i64 at0] [] 0 (sl yc.c r) [] 0:=by
  refine yag.intro Tryz.func111 yave (yad rfl) ?_
  show Wp Pg 32 0 yanh ⟨yal _ yani,[],_,_⟩ (yafk r)
  unfold zre at h
  unfold yanh
  refine yai [] ?_
  refine Wp.seq (yh (yb (Wp.seq ?_)))
  refine yh (yb (Wp.seq (Wp.seq ?_)))
  refine yh (yb (Wp.block (Wp.loop ?_)))
  exact ybl [.kill [0,4,20],.at 5 (.virt 2),.tidy] (zabd _ h)
noncomputable abbrev yua(r:(yz × Int × Bool)):Ex→St→Prop:=yay 0 [.cell 8 true 3,.tmp 9,.tmp 10] (.tup [.agg [.int .i64 r.1.yn,.int .i64 r.1.yi,sl yc.c r.1.Entries],.int .i64 r.2.1,.bool r.2.2]) [] 0
noncomputable abbrev zrm(l:yz)(from0:Int)(rest:(List yc))(rec0:Int→Option (yz × Int × Bool))(r:(yz × Int × Bool)):Prop:=∀ {i:Int},rec0 i=some r→LWp Pg 120 0 ypu ⟨[(0,.bad),(1,.bad),(2,.bad),(3,.bad),(4,.ptr 0 0),(8,.ptr 1 0),(9,.bad),(10,.bad),(11,.int .i64 from0),(12,.bad),(13,sl yc.c rest),(14,.bad),(15,.bad),(16,.int .i64 (IntKind.i64.wrap (from0 + (rest.length:Int)))),(17,.int .i64 i),(18,.bad),(19,.bad),(20,.bad),(27,.bad),(34,.bad),(55,.bad),(61,.bad),(73,.bad),(94,.bad)],[],[(0,.box [.int .i64 l.yn,.int .i64 l.yi,sl yc.c l.Entries]),(1,.box [.int .i64 (0:Int),.int .i64 (0:Int),.nil])],2⟩ (yam 0 (yav Pg 120 0 (.seq (.reg none yna) .ret) (yua r)))
theorem zabb{l:yz}{from0:Int}{rest:(List yc)}{r:(yz × Int × Bool)} (h:zqq l from0 rest=some r):Wp Pg 120 0 (.seq (.reg none yna) .ret) ⟨[(0,.bad),(1,.bad),(2,.bad),(3,.bad),(4,.ptr 0 0),(8,.ptr 1 0),(9,.bad),(10,.bad),(11,.bad),(12,.bad),(13,.bad),(14,.bad),(15,.bad),(16,.int .i64 (IntKind.i64.wrap (from0 + (rest.length:Int)))),(17,.bad),(18,.bad),(19,.bad),(20,.bad),(27,.bad),(34,.bad),(55,.bad),(61,.bad),(73,.bad),(94,.bad)],[],[(0,.box [.int .i64 l.yn,.int .i64 l.yi,sl yc.c l.Entries]),(1,.box [.int .i64 (0:Int),.int .i64 (0:Int),.nil])],2⟩ (yua r):=by
  unfold zqq at h
  replace h:=yah h; subst h
  refine Wp.seq (yh (yb (Wp.ret ?_)))
  exact yan
theorem zvo{l:yz}{from0:Int}{rest:(List yc)}{i:Int}{v94:Bool}{r:(yz × Int × Bool)}{zbm:Int→Option (yz × Int × Bool)}(zlz:zrm l from0 rest zbm r)(h:ziu zbm l from0 rest i v94=some r):Wp Pg 120 0 (.cond (.t 94) (.out 1) .skip) ⟨[(0,.bad),(1,.bad),(2,.bad),(3,.bad),(4,.ptr 0 0),(8,.ptr 1 0),(9,.bad),(10,.bad),(11,.int .i64 from0),(12,.bad),(13,sl yc.c rest),(14,.bad),(15,.bad),(16,.int .i64 (IntKind.i64.wrap (from0 + (rest.length:Int)))),(17,.int .i64 i),(18,.bad),(19,.bad),(20,.bad),(27,.bad),(34,.bad),(55,.bad),(61,.bad),(73,.bad),(94,.bool v94)],[],[(0,.box [.int .i64 l.yn,.int .i64 l.yi,sl yc.c l.Entries]),(1,.box [.int .i64 (0:Int),.int .i64 (0:Int),.nil])],2⟩ (yav Pg 120 0 (.seq (.reg none yamn) (.seq (.reg (some [(1,6)]) yamo) (.seq (.reg (some []) yamp) (.seq (.reg none yamq) .ret)))) (yam 1 (yav Pg 120 0 (.reg none yamr) (ydl Pg 120 0 ypu (yam 0 (yav Pg 120 0 (.seq (.reg none yna) .ret) (yua r))))))):=by
  unfold ziu at h
  replace h:=ifS h; rcases h with ⟨g13,h⟩ | ⟨g13,h⟩
  ·refine yab (Wp.out (ydy (ycn (yb ?_))))
   refine yh (ydk ?_)
   exact ybl [.kill [94]] (zlz h)
  ·refine yaa (Wp.skip (yb (Wp.seq ?_)))
   refine yh (yb (Wp.seq ?_))
   replace h:=yx h; obtain ⟨r0_4,g14,h⟩:=h
   replace h:=ycw h; obtain ⟨g15,h⟩:=h
   refine yap [] yao (ybk 6 (yp (zacs g14) (yf _)) (yau _)) (yb (Wp.seq ?_))
   replace h:=yx h; obtain ⟨l_2,g16,h⟩:=h
   replace h:=ycw h; obtain ⟨g17,h⟩:=h
   replace h:=yah h; subst h
   refine yap [] yao (yau _) (yb (Wp.seq ?_))
   refine yh (yb ?_)
   refine yai [.cell 8 2 .frz] (Wp.ret (ybn (yax (ymi (ybn (yax ?_))))))
   exact yan
theorem zzs{l:yz}{from0:Int}{rest:(List yc)}{r:(yz × Int × Bool)} {zbm:Int→Option (yz × Int × Bool)}(zlz:zrm l from0 rest zbm r){i:Int}(h:zlr l from0 rest zbm i=some r):LWp Pg 120 0 ypu ⟨[(0,.bad),(1,.bad),(2,.bad),(3,.bad),(4,.ptr 0 0),(8,.ptr 1 0),(9,.bad),(10,.bad),(11,.int .i64 from0),(12,.bad),(13,sl yc.c rest),(14,.bad),(15,.bad),(16,.int .i64 (IntKind.i64.wrap (from0 + (rest.length:Int)))),(17,.int .i64 i),(18,.bad),(19,.bad),(20,.bad),(27,.bad),(34,.bad),(55,.bad),(61,.bad),(73,.bad),(94,.bad)],[],[(0,.box [.int .i64 l.yn,.int .i64 l.yi,sl yc.c l.Entries]),(1,.box [.int .i64 (0:Int),.int .i64 (0:Int),.nil])],2⟩ (yam 0 (yav Pg 120 0 (.seq (.reg none yna) .ret) (yua r))):=by
  unfold zlr at h
  refine LWp.stepC ypu.eq_1 ?_
  refine Wp.seq (Wp.seq (yh (yb ?_)))
  replace h:=ifS h; rcases h with ⟨g9,h⟩ | ⟨g9,h⟩
  ·refine yab (Wp.skip (yb (Wp.seq (Wp.block (Wp.seq (Wp.reg ?_))))))
   replace h:=yx h; obtain ⟨r0_3,g10,h⟩:=h
   refine yaq 6 (yp (zcv g10) (yf _)) ?_
   refine yak (yf _) (yb (Wp.seq (Wp.seq ?_)))
   replace h:=ifS h; rcases h with ⟨g11,h⟩ | ⟨g11,h⟩
   ·replace h:=yx h; obtain ⟨e,g12,h⟩:=h
    refine yh (yb ?_)
    exact yt [.kill [18,19,73]] (zvo zlz h)
   ·refine yh (yb ?_)
    exact yt [.kill [18,19,73]] (zvo zlz h)
  ·refine yaa (Wp.out (ydy (ydi (ycn (yb ?_)))))
   exact yt [.kill [11,13,17,73]] (zabb h)
theorem zabc{l:yz}{from0:Int}{rest:(List yc)}{r:(yz × Int × Bool)}:∀ (n:Nat),zrm l from0 rest (zds l from0 rest n) r:=by
  intro n
  induction n with
  | zero=>intro i h; unfold zds at h; cases h
  | succ n ih=>intro i h; unfold zds at h; exact zzs ih h
theorem zvn{l:yz}{from0 want:Int}{rest:(List yc)}{r:(yz × Int × Bool)} (h:zlj l from0 want rest=some r):Wp Pg 120 0 (.seq (.reg none yamg) (.seq (.seq (.reg none yamh) (.cond (.t 55) (.seq (.reg (some [(0,2)]) yami) .ret) .skip)) (.seq (.seq (.reg none yamj) (.cond (.t 61) (.seq (.reg (some [(0,3)]) yamk) .ret) .skip)) (.seq (.reg none yaml) (.seq (.seq (.reg none yamm) (.block 0 (.loop ypu))) (.seq (.reg none yna) .ret)))))) ⟨[(0,.bad),(1,.bad),(2,.bad),(3,.bad),(4,.ptr 0 0),(8,.ptr 1 0),(9,.bad),(10,.bad),(11,.int .i64 from0),(12,.int .i64 want),(13,sl yc.c rest),(14,.bad),(15,.bad),(16,.bad),(17,.bad),(18,.bad),(19,.bad),(20,.bad),(27,.bad),(34,.bad),(55,.bad),(61,.bad),(73,.bad),(94,.bad)],[],[(0,.box [.int .i64 l.yn,.int .i64 l.yi,sl yc.c l.Entries]),(1,.box [.int .i64 (0:Int),.int .i64 (0:Int),.nil])],2⟩ (yua r):=by
  unfold zlj at h
  refine Wp.seq (Wp.reg ?_)
  replace h:=yx h; obtain ⟨r0,g4,h⟩:=h
  refine yaq 3 (yp (zcv g4) (yf _)) ?_
  refine yak (yf _) (yb (Wp.seq (Wp.seq ?_)))
  refine yh (yb ?_)
  replace h:=ifS h; rcases h with ⟨g5,h⟩ | ⟨g5,h⟩
  ·refine yaa (Wp.skip (yb (Wp.seq (Wp.seq ?_))))
   refine yh (yb ?_)
   replace h:=ifS h; rcases h with ⟨g7,h⟩ | ⟨g7,h⟩
   ·refine yab (Wp.seq ?_)
    replace h:=yx h; obtain ⟨r0_2,g8,h⟩:=h
    replace h:=yah h; subst h
    refine yap [] yao (ybk 3 (yp (zack g8) (yf _)) (yau _)) (yb (Wp.ret (yax ?_)))
    exact yan
   ·refine yaa (Wp.skip (yb (Wp.seq ?_)))
    refine yh (yb (Wp.seq (Wp.seq ?_)))
    refine yh (yb (Wp.block (Wp.loop ?_)))
    exact ybl [.kill [12,14,15,55,61]] (zabc _ h)
  ·refine yab (Wp.seq ?_)
   replace h:=yx h; obtain ⟨r0_1,g6,h⟩:=h
   replace h:=yah h; subst h
   refine yap [] yao (ybk 2 (yp (zdt g6) (yf _)) (yau _)) (yb (Wp.ret (yax ?_)))
   exact yan
theorem zacr{l:yz}{at0:Int}{term:Int}{entries:(List yc)}{r:(yz × Int × Bool)} (h:zpg l at0 term entries=some r):yag Pg 103 [.agg [.int .i64 l.yn,.int .i64 l.yi,sl yc.c l.Entries],.int .i64 at0,.int .i64 term,sl yc.c entries] [] 0 (.tup [.agg [.int .i64 r.1.yn,.int .i64 r.1.yi,sl yc.c r.1.Entries],.int .i64 r.2.1,.bool r.2.2]) [] 0:=by
  refine yag.intro Tryz.func103 yauq (yad rfl) ?_
  show Wp Pg 120 0 yamf ⟨yal _ yams,[],_,_⟩ (yua r)
  unfold zpg at h
  unfold yamf
  refine yai [] ?_
  refine Wp.seq (yh (yb (Wp.seq ?_)))
  refine yh (yb (Wp.seq ?_))
  refine yh (yb (Wp.seq ?_))
  refine yh (yb (Wp.seq (Wp.seq ?_)))
  refine yh (yb ?_)
  replace h:=ifS h; rcases h with ⟨g1,h⟩ | ⟨g1,h⟩
  ·refine yab (Wp.seq (Wp.seq ?_))
   refine yh (yb ?_)
   replace h:=ifS h; rcases h with ⟨g2,h⟩ | ⟨g2,h⟩
   ·replace h:=yah h; subst h
    refine yab (Wp.seq ?_)
    refine yap [] yao (yau _) (yb (Wp.ret (yax (yax ?_))))
    exact yan
   ·refine yaa (Wp.skip (yb (Wp.seq ?_)))
    replace h:=yx h; obtain ⟨l_1,g3,h⟩:=h
    refine yh (yb (Wp.seq ?_))
    refine yh (yb ?_)
    refine yh (yb ?_)
    exact yt [.kill [0,1,2,3,9,10,14,15,16,17,18,19,20,27,34,55,61,73,94],.tidy] (zvn h)
  ·refine yaa (Wp.skip (yb ?_))
   exact yt [.kill [0,1,2,3,9,10,14,15,16,17,18,19,20,27,34,55,61,73,94],.tidy] (zvn h)
noncomputable abbrev ydmd(r:Int):Ex→St→Prop:=yay 0 [.tmp 2] (.int .i64 r) [] 0
theorem zzw{l:yz}{r:Int} (h:zlv l=some r):yag Pg 108 [.agg [.int .i64 l.yn,.int .i64 l.yi,sl yc.c l.Entries]] [] 0 (.int .i64 r) [] 0:=by
  refine yag.intro Tryz.func108 yauz (yad rfl) ?_
  show Wp Pg 13 0 yanb ⟨yal _ yanc,[],_,_⟩ (ydmd r)
  unfold zlv at h
  unfold yanb
  refine yai [] ?_
  refine Wp.seq (yh (yb (Wp.seq ?_)))
  replace h:=yx h; obtain ⟨r0,g1,h⟩:=h
  replace h:=yx h; obtain ⟨r0_1,g2,h⟩:=h
  replace h:=yah h; subst h
  refine yap [] yao (ybk 2 (yp (zdt g1) (yf _)) (ybk 3 (yp (zcv g2) (yf _)) (yau _))) (yb (Wp.seq ?_))
  refine yh (yb (Wp.ret ?_))
  exact yan
noncomputable abbrev yaka(r:(ye × (List yg))):Ex→St→Prop:=yay 0 [.cell 4 true 16,.tmp 5] (.tup [.agg [.int .i64 r.1.Id,.int .i64 r.1.N,.int .i64 r.1.Term,.int .i64 r.1.yac,.int .i64 r.1.yv,.int .i64 r.1.yaf,.int .i64 r.1.yj.yn,.int .i64 r.1.yj.yi,sl yc.c r.1.yj.Entries,.int .i64 r.1.yl,sl (ci .u8) r.1.yy,sl cb r.1.ym,sl (ci .i64) r.1.Next,sl (ci .i64) r.1.yr,.int .i64 r.1.yu,.int .i64 r.1.yae],sl yg.c r.2]) [] 0
theorem zrq{m_00 m_10 m_20 m_30 m_40 m_50 m_60 m_70:Int}{m_80:(List yc)}{m_90 ze zh:Int}{zd:(List Int)}{zf:(List Bool)}{zc zg:(List Int)}{zi:(List yg)}{r:(ye × (List yg))} (h:zny m_00 m_10 m_20 m_30 m_40 m_50 m_60 m_70 m_80 m_90 ze zh zd zf zc zg zi=some r):Wp Pg 68 0 (.seq (.reg none yads) .ret) ⟨[(0,.bad),(1,.bad),(2,.bad),(4,.ptr 0 0),(5,.bad),(6,.ptr 1 0),(18,.bad),(41,.bad)],[],(hp90 (0:Int) (0:Int) (0:Int) (0:Int) (0:Int) (0:Int) (0:Int) (0:Int) (0:Int) (0:Int) (0:Int) m_00 m_10 m_20 m_30 m_40 m_50 m_60 m_70 m_80 m_90 zd zf zc zg ze zh zi),7⟩ (yaka r):=by
  unfold zny at h
  refine Wp.seq (Wp.reg ?_)
  replace h:=yx h; obtain ⟨r0_4,g8,h⟩:=h
  replace h:=yah h; subst h
  refine yew 2 (yp (zon g8) (yf _)) ?_
  refine yak (yf _) (yb ?_)
  refine yai [.cell 4 10 .frz,.cell 4 11 .frz,.cell 4 12 .frz,.cell 4 13 .frz,.at 5 .frz] (Wp.ret ?_)
  exact yan
theorem zvk{draw:Int}{r0_1:yd}{v41:Bool}{r:(ye × (List yg))} (h:zli draw r0_1 v41=some r):Wp Pg 68 0 (.cond (.t 41) (.reg none yany) .skip) ⟨[(0,.bad),(1,.int .i64 draw),(2,.bad),(4,.ptr 0 0),(5,.bad),(6,.ptr 1 0),(18,.bad),(41,.bool v41)],[],(hs7 r0_1 (0:Int) (0:Int) (0:Int) (0:Int) (0:Int) (0:Int) (0:Int) (0:Int) (0:Int) (0:Int) (0:Int) (IntKind.i64.wrap (r0_1.ya.yu + (1:Int)))),8⟩ (yam 0 (yav Pg 68 0 (.seq (.reg none yads) .ret) (yaka r))):=by
  unfold zli at h
  replace h:=ifS h; rcases h with ⟨g6,h⟩ | ⟨g6,h⟩
  ·refine yab (Wp.reg ?_)
   replace h:=yx h; obtain ⟨r0_3,g7,h⟩:=h
   refine ycy (yp (zyt g7) (yf _)) (ybh (yb ?_))
   exact yt [.kill [1,41],.tidy] (zrq h)
  ·refine yaa (Wp.skip (ybh (yb ?_)))
   exact yt [.kill [1,41],.cell 6 8 .frz,.tidy] (zrq h)
theorem zvj{draw:Int}{r0_1:yd}{v18:Bool}{r:(ye × (List yg))} (h:znx draw r0_1 v18=some r):Wp Pg 68 0 (.cond (.t 18) (.seq (.reg none ybih) (.reg none ybii)) (.seq (.reg (some []) ybij) (.cond (.t 41) (.reg none yany) .skip))) ⟨[(0,.bad),(1,.int .i64 draw),(2,.bad),(4,.ptr 0 0),(5,.bad),(6,.ptr 1 0),(18,.bool v18),(41,.bad)],[],(hs7 r0_1 (0:Int) (0:Int) (0:Int) (0:Int) (0:Int) (0:Int) (0:Int) (0:Int) (0:Int) (0:Int) (0:Int) (IntKind.i64.wrap (r0_1.ya.yu + (1:Int)))),8⟩ (yam 0 (yav Pg 68 0 (.seq (.reg none yads) .ret) (yaka r))):=by
  unfold znx at h
  replace h:=ifS h; rcases h with ⟨g3,h⟩ | ⟨g3,h⟩
  ·refine yab (Wp.seq ?_)
   refine yh (yb (Wp.reg ?_))
   replace h:=yx h; obtain ⟨r0_2,g4,h⟩:=h
   refine ycy (yp (zys g4) (yf _)) (ybh (yb ?_))
   exact yt [.kill [1,18],.tidy] (zrq h)
  ·refine yaa (Wp.seq ?_)
   replace h:=ifS h; rcases h with ⟨g5,h⟩ | ⟨g5,h⟩
   ·refine yap [] yao (yau _) (yb ?_)
    exact yt [.kill [18],.tidy] (zvk h)
   ·refine yap [] yao (yau _) (yb ?_)
    exact yt [.kill [18],.tidy] (zvk h)
theorem zyl{r0:ye}{draw:Int}{r:(ye × (List yg))} (h:zpe r0 draw=some r):yag Pg 11 [.agg [.int .i64 r0.Id,.int .i64 r0.N,.int .i64 r0.Term,.int .i64 r0.yac,.int .i64 r0.yv,.int .i64 r0.yaf,.int .i64 r0.yj.yn,.int .i64 r0.yj.yi,sl yc.c r0.yj.Entries,.int .i64 r0.yl,sl (ci .u8) r0.yy,sl cb r0.ym,sl (ci .i64) r0.Next,sl (ci .i64) r0.yr,.int .i64 r0.yu,.int .i64 r0.yae],.int .i64 draw] [] 0 (.tup [.agg [.int .i64 r.1.Id,.int .i64 r.1.N,.int .i64 r.1.Term,.int .i64 r.1.yac,.int .i64 r.1.yv,.int .i64 r.1.yaf,.int .i64 r.1.yj.yn,.int .i64 r.1.yj.yi,sl yc.c r.1.yj.Entries,.int .i64 r.1.yl,sl (ci .u8) r.1.yy,sl cb r.1.ym,sl (ci .i64) r.1.Next,sl (ci .i64) r.1.yr,.int .i64 r.1.yu,.int .i64 r.1.yae],sl yg.c r.2]) [] 0:=by
  refine yag.intro Tryz.func11 ybik (yad rfl) ?_
  show Wp Pg 68 0 yaza ⟨yal _ yazb,[],_,_⟩ (yaka r)
  unfold zpe at h
  unfold yaza
  refine yai [] ?_
  refine Wp.seq (yh (yb (Wp.seq (Wp.reg ?_))))
  replace h:=yx h; obtain ⟨r0_1,g1,h⟩:=h
  refine yew 2 (yp (ztc g1) (yf _)) ?_
  refine yak (yf _) (yb (Wp.seq ?_))
  refine yh (yb (Wp.seq (Wp.block (Wp.seq ?_))))
  replace h:=ifS h; rcases h with ⟨g2,h⟩ | ⟨g2,h⟩
  ·refine yh (yb ?_)
   exact yt [.kill [0,2,5,41],.tidy] (zvj h)
  ·refine yh (yb ?_)
   exact yt [.kill [0,2,5,41],.tidy] (zvj h)
noncomputable abbrev ydsj(r:(ye × Int × (List yg) × Int)):Ex→St→Prop:=yay 0 [.cell 4 true 16,.tmp 5,.tmp 6,.tmp 7] (.tup [.agg [.int .i64 r.1.Id,.int .i64 r.1.N,.int .i64 r.1.Term,.int .i64 r.1.yac,.int .i64 r.1.yv,.int .i64 r.1.yaf,.int .i64 r.1.yj.yn,.int .i64 r.1.yj.yi,sl yc.c r.1.yj.Entries,.int .i64 r.1.yl,sl (ci .u8) r.1.yy,sl cb r.1.ym,sl (ci .i64) r.1.Next,sl (ci .i64) r.1.yr,.int .i64 r.1.yu,.int .i64 r.1.yae],.int .i64 r.2.1,sl yg.c r.2.2.1,.int .i64 r.2.2.2]) [] 0
theorem zvg{r0:ye}{data:(List Int)}{r:(ye × Int × (List yg) × Int)} (h:zit r0 data=some r):yag Pg 12 [.agg [.int .i64 r0.Id,.int .i64 r0.N,.int .i64 r0.Term,.int .i64 r0.yac,.int .i64 r0.yv,.int .i64 r0.yaf,.int .i64 r0.yj.yn,.int .i64 r0.yj.yi,sl yc.c r0.yj.Entries,.int .i64 r0.yl,sl (ci .u8) r0.yy,sl cb r0.ym,sl (ci .i64) r0.Next,sl (ci .i64) r0.yr,.int .i64 r0.yu,.int .i64 r0.yae],sl (ci .u8) data] [] 0 (.tup [.agg [.int .i64 r.1.Id,.int .i64 r.1.N,.int .i64 r.1.Term,.int .i64 r.1.yac,.int .i64 r.1.yv,.int .i64 r.1.yaf,.int .i64 r.1.yj.yn,.int .i64 r.1.yj.yi,sl yc.c r.1.yj.Entries,.int .i64 r.1.yl,sl (ci .u8) r.1.yy,sl cb r.1.ym,sl (ci .i64) r.1.Next,sl (ci .i64) r.1.yr,.int .i64 r.1.yu,.int .i64 r.1.yae],.int .i64 r.2.1,sl yg.c r.2.2.1,.int .i64 r.2.2.2]) [] 0:=by
  refine yag.intro Tryz.func12 ybim (yad rfl) ?_
  show Wp Pg 36 0 yazc ⟨yal _ yazd,[],_,_⟩ (ydsj r)
  unfold zit at h
  unfold yazc
  refine yai [] ?_
  refine Wp.seq (yh (yb (Wp.seq (Wp.reg ?_))))
  replace h:=yx h; obtain ⟨r0_1,g1,h⟩:=h
  refine yew 2 (yp (ztc g1) (yf _)) ?_
  refine yak (yf _) (yb (Wp.seq (Wp.seq ?_)))
  refine yh (yb ?_)
  replace h:=ifS h; rcases h with ⟨g2,h⟩ | ⟨g2,h⟩
  ·replace h:=yah h; subst h
   refine yab (Wp.seq ?_)
   refine yh (yb ?_)
   refine yai [.cell 4 8 .frz,.cell 4 10 .frz,.cell 4 11 .frz,.cell 4 12 .frz,.cell 4 13 .frz,.at 6 .frz] (Wp.ret (yax ?_))
   exact yan
  ·refine yaa (Wp.skip (yb (Wp.seq (Wp.reg ?_))))
   replace h:=yx h; obtain ⟨r0_2,g3,h⟩:=h
   refine ycy (yp (zux g3) (yf _)) (yb (Wp.seq (Wp.reg ?_)))
   replace h:=yx h; obtain ⟨r0_3,g4,h⟩:=h
   refine yew 2 (yp (zon g4) (yf _)) ?_
   refine yak (yf _) (yb (Wp.seq ?_))
   replace h:=yx h; obtain ⟨r0_4,g5,h⟩:=h
   replace h:=yah h; subst h
   refine yap [] yao (ybk 3 (yp (zbr g5) (yf _)) (yau _)) (yb ?_)
   refine yai [.cell 4 10 .frz,.cell 4 11 .frz,.cell 4 12 .frz,.cell 4 13 .frz,.at 6 .frz] (Wp.ret ?_)
   exact yan
noncomputable abbrev yccz(r:(ye × Int)):Ex→St→Prop:=yay 0 [.cell 6 true 16,.tmp 7] (.tup [.agg [.int .i64 r.1.Id,.int .i64 r.1.N,.int .i64 r.1.Term,.int .i64 r.1.yac,.int .i64 r.1.yv,.int .i64 r.1.yaf,.int .i64 r.1.yj.yn,.int .i64 r.1.yj.yi,sl yc.c r.1.yj.Entries,.int .i64 r.1.yl,sl (ci .u8) r.1.yy,sl cb r.1.ym,sl (ci .i64) r.1.Next,sl (ci .i64) r.1.yr,.int .i64 r.1.yu,.int .i64 r.1.yae],.int .i64 r.2]) [] 0
theorem zst{upto:Int}{snap:(List Int)}{r0_1:yd}{v29:Bool}{r:(ye × Int)} (h:zhw upto snap r0_1 v29=some r):Wp Pg 66 0 (.cond (.t 29) (.seq (.reg none ybin) .ret) .skip) ⟨[(0,.bad),(1,.int .i64 upto),(2,sl (ci .u8) snap),(3,.bad),(6,.ptr 0 0),(7,.bad),(8,.ptr 1 0),(9,.bad),(10,.bad),(29,.bool v29),(45,.bad)],[],(hs97 r0_1 (0:Int) (0:Int) (0:Int) (0:Int) (0:Int) (0:Int) (0:Int) (0:Int) (0:Int) (0:Int) (0:Int)),8⟩ (yav Pg 66 0 (.seq (.reg none ybio) (.seq (.seq (.reg none ybip) (.cond (.t 45) (.seq (.reg none ybiq) .ret) .skip)) (.seq (.reg (some [(2,4)]) ybir) (.seq (.reg none ybis) .ret)))) (yccz r)):=by
  unfold zhw at h
  replace h:=ifS h; rcases h with ⟨g3,h⟩ | ⟨g3,h⟩
  ·replace h:=yah h; subst h
   refine yab (Wp.seq ?_)
   refine yh (yb ?_)
   refine yai [.cell 6 8 .frz,.cell 6 10 .frz,.cell 6 11 .frz,.cell 6 12 .frz,.cell 6 13 .frz] (Wp.ret (yax ?_))
   exact yan
  ·refine yaa (Wp.skip (yb (Wp.seq (Wp.reg ?_))))
   replace h:=yx h; obtain ⟨r0_2,g4,h⟩:=h
   refine yaq 7 (yp (zvd g4) (yf _)) ?_
   refine yak (yf _) (yb (Wp.seq (Wp.seq ?_)))
   refine yh (yb ?_)
   replace h:=ifS h; rcases h with ⟨g5,h⟩ | ⟨g5,h⟩
   ·replace h:=yah h; subst h
    refine yab (Wp.seq ?_)
    refine yh (yb ?_)
    refine yai [.cell 6 8 .frz,.cell 6 10 .frz,.cell 6 11 .frz,.cell 6 12 .frz,.cell 6 13 .frz] (Wp.ret (yax ?_))
    exact yan
   ·refine yaa (Wp.skip (yb (Wp.seq ?_)))
    replace h:=ycw h; obtain ⟨g6,h⟩:=h
    replace h:=yah h; subst h
    refine yap [] yao (yau _) (yb (Wp.seq ?_))
    refine yh (yb ?_)
    refine yai [.cell 6 10 .frz,.cell 6 11 .frz,.cell 6 12 .frz,.cell 6 13 .frz] (Wp.ret ?_)
    exact yan
theorem zvf{r0:ye}{upto:Int}{snap:(List Int)}{r:(ye × Int)} (h:zis r0 upto snap=some r):yag Pg 13 [.agg [.int .i64 r0.Id,.int .i64 r0.N,.int .i64 r0.Term,.int .i64 r0.yac,.int .i64 r0.yv,.int .i64 r0.yaf,.int .i64 r0.yj.yn,.int .i64 r0.yj.yi,sl yc.c r0.yj.Entries,.int .i64 r0.yl,sl (ci .u8) r0.yy,sl cb r0.ym,sl (ci .i64) r0.Next,sl (ci .i64) r0.yr,.int .i64 r0.yu,.int .i64 r0.yae],.int .i64 upto,sl (ci .u8) snap] [] 0 (.tup [.agg [.int .i64 r.1.Id,.int .i64 r.1.N,.int .i64 r.1.Term,.int .i64 r.1.yac,.int .i64 r.1.yv,.int .i64 r.1.yaf,.int .i64 r.1.yj.yn,.int .i64 r.1.yj.yi,sl yc.c r.1.yj.Entries,.int .i64 r.1.yl,sl (ci .u8) r.1.yy,sl cb r.1.ym,sl (ci .i64) r.1.Next,sl (ci .i64) r.1.yr,.int .i64 r.1.yu,.int .i64 r.1.yae],.int .i64 r.2]) [] 0:=by
  refine yag.intro Tryz.func13 ybit (yad rfl) ?_
  show Wp Pg 66 0 yaze ⟨yal _ yazf,[],_,_⟩ (yccz r)
  unfold zis at h
  unfold yaze
  refine yai [] ?_
  refine Wp.seq (yh (yb (Wp.seq (Wp.reg ?_))))
  replace h:=yx h; obtain ⟨r0_1,g1,h⟩:=h
  refine yew 2 (yp (ztc g1) (yf _)) ?_
  refine yak (yf _) (yb (Wp.seq (Wp.seq ?_)))
  replace h:=ifS h; rcases h with ⟨g2,h⟩ | ⟨g2,h⟩
  ·refine yh (yb ?_)
   exact yt [.kill [0,3,7,9,10,45],.tidy] (zst h)
  ·refine yh (yb ?_)
   exact yt [.kill [0,3,7,9,10,45],.tidy] (zst h)
noncomputable abbrev ydsk(r:Int):Ex→St→Prop:=yay 0 [.tmp 4] (.int .i64 r) [] 0
theorem zlm{k:Int}{n0:Int}{r:Int} (h:zdm k n0=some r):yag Pg 16 [.int .i64 k,.int .i64 n0] [] 0 (.int .i64 r) [] 0:=by
  refine yag.intro Tryz.func16 ybiv (yad rfl) ?_
  show Wp Pg 11 0 yazi ⟨yal _ yazj,[],_,_⟩ (ydsk r)
  unfold zdm at h
  unfold yazi
  refine yai [] ?_
  refine Wp.seq (yh (yb (Wp.seq ?_)))
  replace h:=reqF h; obtain ⟨g1,h⟩:=h
  replace h:=yah h; subst h
  refine yh (yb (Wp.ret ?_))
  exact yan
end Go.Proofs.YtgoachcogmlhcaaGreat.R
