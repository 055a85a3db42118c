/- Bundles of equations. -/
import Derived.Test.YtgoachcogmlhcaaGreatREw
set_option linter.unusedVariables false
set_option linter.unusedSimpArgs false
set_option linter.defProp false
noncomputable section
namespace Go.Proofs.YtgoachcogmlhcaaGreat.R
open Go
theorem ybts(args:List AV):yal args [] = []:=rfl
theorem ybgo(args:List AV)(t:Nat)(r:List Nat):yal args (t :: r) = (t,(match args[t]? with | some v=>v | none=>.un)) :: yal args r:=rfl
theorem ybsn(n:Nat)(vs:List AV):ych [] n vs = []:=rfl
theorem ycbd(c v:AV)(cs vs:List AV):ych (c :: cs) 0 (v :: vs) = v :: ych cs 0 vs:=rfl
theorem ycbe(c:AV)(cs:List AV):ych (c :: cs) 0 [] = c :: cs:=rfl
theorem ycnx(c:AV)(cs:List AV)(n:Nat)(vs:List AV):ych (c :: cs) (n + 1) vs=c :: ych cs n vs:=rfl
theorem ycqo(k:IntKind)(n:Int):yds (.int k n) = true:=rfl
theorem yceh(b:Bool):yds (.bool b) = true:=rfl
theorem ycqs(s:ByteArray):yds (.str s) = true:=rfl
theorem ycqp:yds .nil=true:=rfl
theorem ycqq(es id off len:Nat)(ex:Bool):yds (.own es id off len ex) = true:=rfl
theorem ycqr(id off:Nat):yds (.ptr id off) = true:=rfl
theorem ycei(id i f:Nat):yds (.eptr id i f) = true:=rfl
theorem ycej(row:List AV)(f:Nat):yds (.iptr row f) = true:=rfl
theorem ydoc(f:Fn)(a b:List AV):yds (.fn f a b) = true:=rfl
theorem ycqn(es:Nat)(rows:List (List AV))(ex:Bool):yds (.imm es rows ex) = true:=rfl
theorem ycek:ycq [] = true:=rfl
theorem ybun(v:AV)(r:List AV):ycq (v :: r) = (yds v && ycq r):=rfl
theorem ybhc(id off:Nat):cellsOf (.ptr id off) = some [.ptr id off]:=rfl
theorem ybux(f:Fn)(a b:List AV):cellsOf (.fn f a b) = some [.fn f a b]:=rfl
theorem ydlw(k:IntKind)(n:Int):ybw (.int k n) = true:=rfl
theorem ycmq(b:Bool):ybw (.bool b) = true:=rfl
theorem ydlx(s:ByteArray):ybw (.str s) = true:=rfl
theorem ydlv(cs:List AV):ybw (.agg cs) = yde cs:=rfl
theorem ydly(cs:List AV):ybw (.tup cs) = yde cs:=rfl
theorem ycmr:yde [] = true:=rfl
theorem ybzg(v:AV)(r:List AV):yde (v :: r) = (ybw v && yde r):=rfl
theorem ydka(k:IntKind)(n:Int):yen (.int k n) = true:=rfl
theorem ycks(b:Bool):yen (.bool b) = true:=rfl
theorem ydkb(s:ByteArray):yen (.str s) = true:=rfl
theorem ydjz(cs:List AV):yen (.agg cs) = yfc cs:=rfl
theorem ydkc(cs:List AV):yen (.tup cs) = yfc cs:=rfl
theorem yckt:yfc [] = true:=rfl
theorem ybxu(v:AV)(r:List AV):yfc (v :: r) = (yen v && yfc r):=rfl
theorem ydok(k:IntKind)(n:Int):ci k n = [.int k n]:=rfl
theorem ydoi(b:Bool):cb b = [.bool b]:=rfl
theorem ydoo(s:ByteArray):cs s = [.str s]:=rfl
theorem ydol{α:Type}(c:α→List AV)(l:List α):cl c l = [sl c l]:=rfl
theorem ycly:yks=549755813888:=rfl
theorem ybhq(H:yq):ydd H [] = H:=rfl
theorem yayn(H:yq)(id:Nat)(r:List Nat):ydd H (id :: r) = ydd (rmv H id) r:=rfl
theorem ybgp(l:List Nat)(m n1 nx j:Nat):yem l m n1 nx j=if j < m then l[j]? else if j < n1 then some (nx + (j - m)) else none:=rfl
theorem ctfz(P:Program)(f:Nat):(cT P).fz f=true:=rfl
section
variable {α β:Type}
theorem ydkq(a:α)(l:List α):(a :: l)[0]? = some a:=rfl
theorem ydkt(a:α)(l:List α)(n:Nat):(a :: l)[n + 1]? = l[n]?:=rfl
theorem ydks(n:Nat):([]:List α)[n]? = none:=rfl
theorem ydkv(a:α)(l:List α):(a :: l).length=l.length + 1:=rfl
theorem ydkx:([]:List α).length=0:=rfl
theorem ydkn(l:List α):[]++l=l:=rfl
theorem ydkm(a:α)(l l':List α):(a :: l)++l' = a :: (l++l'):=rfl
theorem ydko(l:List α):l++[] = l:=List.append_nil l
theorem ydla(f:α→β)(a:α)(l:List α):(a :: l).map f=f a :: l.map f:=rfl
theorem ydlb(f:α→β):([]:List α).map f = []:=rfl
theorem ycln(l:List α):l.drop 0=l:=rfl
theorem yclm(a:α)(l:List α)(n:Nat):(a :: l).drop (n + 1) = l.drop n:=rfl
theorem ycll(n:Nat):([]:List α).drop n = []:=List.drop_nil
theorem yclt(l:List α):l.take 0 = []:=rfl
theorem ycls(a:α)(l:List α)(n:Nat):(a :: l).take (n + 1) = a :: l.take n:=rfl
theorem yclr(n:Nat):([]:List α).take n = []:=List.take_nil
theorem ydkw(f:α→β)(l:List α):(l.map f).length=l.length:=List.length_map f
theorem ydku(l l':List α):(l++l').length=l.length + l'.length:=List.length_append
theorem ydkz(f:α→β)(l l':List α):(l++l').map f=l.map f++l'.map f:=List.map_append
theorem ydkr(a b:α):(some a).getD b=a:=rfl
theorem yclp(b:α):(none:Option α).getD b=b:=rfl
theorem ydle(f:α→β)(a:α):(some a).map f=some (f a):=rfl
theorem yclq(f:α→β):(none:Option α).map f=none:=rfl
theorem ydsa(a:α)(b:Option α):(some a).or b=some a:=rfl
theorem ydsb(b:Option α):(none:Option α).or b=b:=rfl
theorem ydkp(f:α→List β)(a:α)(l:List α):(a :: l).flatMap f=f a++l.flatMap f:=List.flatMap_cons
theorem yclo(f:α→List β):([]:List α).flatMap f = []:=rfl
end
theorem ybyj:List.range 0 = []:=rfl
theorem ybyk(n:Nat):List.range (n + 1) = List.range n++[n]:=List.range_succ
theorem ydrz(a b:Nat)(l:List Nat):(a∈b :: l) = (a=b∨a∈l):=by simp
theorem ydld(a:Nat):(a∈([]:List Nat)) = False:=by simp
theorem ydnz(a b:Bool):((a && b) = true) = (a=true∧b=true):=by simp
theorem b_or(a b:Bool):((a || b) = true) = (a=true∨b=true):=by simp
theorem ydoa(a b:Nat):(Nat.beq a b=true) = (a=b):=by simp
theorem b_ff:(false=true) = False:=by simp
theorem b_tt:(true=true) = True:=by simp
theorem ydob(a b:Nat):(Nat.blt a b=true) = (a < b):=by simp
theorem ycqi{α:Type}(b:Bool)(x y:α):(bif b then x else y) = if b=true then x else y:=by cases b <;> rfl
theorem p_ta(p:Prop):(True∧p) = p:=by simp
theorem p_at(p:Prop):(p∧True) = p:=by simp
theorem p_fa(p:Prop):(False∧p) = False:=by simp
theorem p_af(p:Prop):(p∧False) = False:=by simp
theorem p_to(p:Prop):(True∨p) = True:=by simp
theorem p_ot(p:Prop):(p∨True) = True:=by simp
theorem p_fo(p:Prop):(False∨p) = p:=by simp
theorem p_of(p:Prop):(p∨False) = p:=by simp
theorem p_nt:(¬ True) = False:=by simp
theorem p_nf:(¬ False) = True:=by simp
theorem b_nt:(!true) = false:=rfl
theorem b_nf:(!false) = true:=rfl
theorem b_bb(b:Bool):(b == true) = b:=by cases b <;> rfl
theorem b_bc(b:Bool):(b == false) = !b:=by cases b <;> rfl
theorem b_ot(b:Bool):(b || true) = true:=by cases b <;> rfl
theorem b_of(b:Bool):(b || false) = b:=by cases b <;> rfl
theorem b_to(b:Bool):(true || b) = true:=rfl
theorem b_fo(b:Bool):(false || b) = b:=rfl
theorem b_ta(b:Bool):(true && b) = b:=rfl
theorem b_fa(b:Bool):(false && b) = false:=rfl
theorem b_at(b:Bool):(b && true) = b:=by cases b <;> rfl
theorem b_af(b:Bool):(b && false) = false:=by cases b <;> rfl
theorem z_le(n:Nat):(0≤n) = True:=by simp
theorem ydll(n:Nat):n + 0=n:=rfl
theorem ydlk(n:Nat):0 + n=n:=Nat.zero_add n
theorem ydlm(n:Nat):n - 0=n:=rfl
def EVa:=And.intro @yaqd (And.intro @ybo (And.intro @yaxs (And.intro @yrm (And.intro @yawz (And.intro @yabz (And.intro @yahq (And.intro @yvc (And.intro @ylw (And.intro @ylv (And.intro @yaiz (And.intro @ylr (And.intro @yahn (And.intro @yahm (And.intro @yahl (And.intro @yed (And.intro @ydf (And.intro @yrw (And.intro @ypi (And.intro @yadl (And.intro @yadm (And.intro @yaaq (And.intro @yadk (And.intro @yaam (And.intro @yalu (And.intro @yxy (And.intro @yxx (And.intro @yaqp (And.intro @yxh (And.intro @yxg (And.intro @ev_t (And.intro @ev_c (And.intro @yais (And.intro @yair (And.intro @yati (@yatp)))))))))))))))))))))))))))))))))))
def EVb:=And.intro @yagb (And.intro @yaga (And.intro @yagc (And.intro @yarv (And.intro @yalf (And.intro @yawr (And.intro @yawq (And.intro @yatt (And.intro @yaiy (And.intro @yate (And.intro @yatq (And.intro @yatl (((And.intro @yatf (And.intro @yatm (And.intro @yatk (And.intro @yatj (And.intro @yath (And.intro @yatg (And.intro @yaud (And.intro @yaug (And.intro @yaqm (And.intro @yaqn (And.intro @yaff (And.intro @ybhx (And.intro @yaue (And.intro @yauf (And.intro @yawm (And.intro @ybqf (And.intro @yawl (And.intro @yapy (And.intro @yapz (And.intro @yaqa (And.intro @yauc (And.intro @yalq (And.intro @yaua (And.intro @yalo (And.intro @yaub (And.intro @yalp (And.intro @yalm (And.intro @yaln (And.intro @yala (And.intro @yaic (And.intro @yain (And.intro @yado (And.intro @yadp (And.intro @yaif (And.intro @yaig (And.intro @yadb (And.intro @yaij (And.intro @yaih (And.intro @yaii (And.intro @ybgk (And.intro @yaxc (And.intro @ybsy (And.intro @yaci (@yaci)))))))))))))))))))))))))))))))))))))))))))))))))))))))))
def EVc:=And.intro @yclw (And.intro @ycsc (And.intro @yclv (And.intro @ydml (And.intro @yceq (And.intro @ydkg (And.intro @ydsi (And.intro @ybuy (And.intro @ycah (And.intro @ybuh (And.intro @ybum (And.intro @ybul (And.intro @ybuk (And.intro @ybuj (And.intro @ybui (And.intro @ycqh (And.intro @ybwd (And.intro @ybwe (And.intro @yclz (And.intro @ybqs (And.intro @ycfg (And.intro @ybvv (And.intro @ybvw (And.intro @ybql (And.intro @ycap (And.intro @ybha (And.intro @ybxz (And.intro @ycmt (And.intro @yaye (And.intro @ybqo (And.intro @ybsl (And.intro @ycbp (And.intro @ybfi (And.intro @ybvu (And.intro @ycff (And.intro @ycfi (And.intro @ycfe (And.intro @ycfj (And.intro @ybvy (And.intro @ybib (And.intro @ybqk (And.intro @ybyn (And.intro @ybyq (And.intro @ybyo (And.intro @ybym (And.intro @ybyr (And.intro @ybqn (And.intro @ybel (And.intro @ycan (And.intro @ycmz (And.intro @ycne (And.intro @ycna (And.intro @ydmm (And.intro @ycmx (And.intro @ycmw (And.intro @ycnf (And.intro @ydmk (And.intro @ycmy (And.intro @ybry (And.intro @ycnb (And.intro @ycnc (And.intro @ycao (And.intro @ycaq (And.intro @ybrz (And.intro @ycak (And.intro @ybrx (And.intro @ycam (And.intro @ycal (And.intro @ybfm (And.intro @ybfl (And.intro @ydth (And.intro @ydtg (And.intro @ycbw (And.intro @ybtc (And.intro @ybrq (And.intro @ybfe (And.intro @ybfd (And.intro @yasm (And.intro @yasl (And.intro @yask (And.intro @ybrs (And.intro @ybfg (And.intro @ybrt (And.intro @ycag (And.intro @ybrm (And.intro @ybrw (And.intro @ybrp (And.intro @ybff (And.intro @ybrv (And.intro @ybfj (And.intro @ycai (And.intro @ybrn (And.intro @ybrr (And.intro @ybro (And.intro @ybfh (And.intro @ybwc (And.intro @ycql (And.intro @ybue (And.intro @ybud (And.intro @ybrc (And.intro @ycpi (And.intro @ycph (And.intro @ycfb (And.intro @ybvp (And.intro @ybhw (And.intro @ybvj (And.intro @ybyi (And.intro @ybqe (And.intro @yclj (And.intro @ybyf (And.intro @ybvl (And.intro @ybgx (And.intro @ybgw (And.intro @ybgv (And.intro @ybgz (And.intro @ybgy (And.intro @ycrv (And.intro @ybtv (And.intro @ybtw (And.intro @ybvh (And.intro @yceo (And.intro @ycep (And.intro @ybuu (And.intro @ycrl (And.intro @ybuv (And.intro @ydnv (And.intro @ydnw (And.intro @ydnx (And.intro @ybsf (And.intro @ycnj (And.intro @retR (And.intro @retN (And.intro @ycnh (And.intro @ycni (And.intro @ycat (And.intro @ybsc (And.intro @ybsb (And.intro @ycmn (And.intro @ycmo (And.intro @ycmm (And.intro @ycrx (And.intro @ycfa (And.intro @ybhh (And.intro @ydoh (And.intro @ydof (And.intro @ybur (And.intro @ydni (@yaqb)))))))))))))))))))))))))))))))))))))))))))))))))))))))))))))))))))))))))))))))))))))))))))))))))))))))))))))))))))))))))))))))))))))))))))))))))))
def EVd:=And.intro @ybts (And.intro @ybgo (And.intro @ybsn (And.intro @ycbd (And.intro @ycbe (And.intro @ycnx (And.intro @ycqo (And.intro @yceh (And.intro @ycqs (And.intro @ycqp (And.intro @ycqq (And.intro @ycqr (And.intro @ycei (And.intro @ycej (And.intro @ydoc (And.intro @ycqn (And.intro @ycek (And.intro @ybun (And.intro @ybhc (And.intro @ybux (And.intro @ydlw (And.intro @ycmq (And.intro @ydlx (And.intro @ydlv (And.intro @ydly (And.intro @ycmr (And.intro @ybzg (And.intro @ydka (And.intro @ycks (And.intro @ydkb (And.intro @ydjz (And.intro @ydkc (And.intro @yckt (And.intro @ybxu (And.intro @ydok (And.intro @ydoi (And.intro @ydoo (And.intro @ydol (And.intro @ycly (And.intro @ybhq (And.intro @yayn (And.intro @ybgp (@ctfz))))))))))))))))))))))))))))))))))))))))))
def EVl:=And.intro @ydkq (And.intro @ydkt (And.intro @ydks (And.intro @ydkv (And.intro @ydkx (And.intro @ydkn (And.intro @ydkm (And.intro @ydko (And.intro @ydla (And.intro @ydlb (And.intro @ycln (And.intro @yclm (And.intro @ycll (And.intro @yclt (And.intro @ycls (And.intro @yclr (And.intro @ydkw (And.intro @ydku (And.intro @ydkz (And.intro @ydkr (And.intro @yclp (And.intro @ydle (And.intro @yclq (And.intro @ydsa (And.intro @ydsb (And.intro @ydkp (And.intro @yclo (And.intro @ybyj (And.intro @ybyk (And.intro @ydrz (And.intro @ydld (And.intro @ydnz (And.intro @b_or (And.intro @ydoa (And.intro @b_ff (And.intro @b_tt (And.intro @ydob (@ycqi)))))))))))))))))))))))))))))))))))))
def EVp:=And.intro @p_ta (And.intro @p_at (And.intro @p_fa (And.intro @p_af (And.intro @p_to (And.intro @p_ot (And.intro @p_fo (And.intro @p_of (And.intro @p_nt (And.intro @p_nf (And.intro @b_nt (And.intro @b_nf (And.intro @b_bb (And.intro @b_bc (And.intro @b_ot (And.intro @b_of (And.intro @b_to (And.intro @b_fo (And.intro @b_ta (And.intro @b_fa (And.intro @b_at (And.intro @b_af (And.intro @z_le (And.intro @ydll (And.intro @ydlk (@ydlm)))))))))))))))))))))))))
theorem b_tb(b:Bool):(true == b) = b:=by cases b <;> rfl
theorem b_fb(b:Bool):(false == b) = !b:=by cases b <;> rfl
theorem ydng:shB .shr=true:=rfl
theorem ydrv(size id off:Nat)(k:IntKind)(i:Int):yoe size 2 (.ptr id off) (.int k i) = if decide (i=0) = true then some (.ptr id off) else if decide (i=1) = true then some (.ptr id (off + size)) else none:=by
  rw [yahh]
  by_cases h0:i=0
  ·subst h0; simp
  ·by_cases h1:i=1
   ·subst h1; simp
   ·have:¬ (0≤i∧i < ((2:Nat):Int)):=by omega
    rw [if_neg this]; simp [h0,h1]
theorem ydrw(size id off:Nat)(k:IntKind)(i:Int):yoe size 3 (.ptr id off) (.int k i) = if decide (i=0) = true then some (.ptr id off) else if decide (i=1) = true then some (.ptr id (off + size)) else if decide (i=2) = true then some (.ptr id (off + 2 * size)) else none:=by
  rw [yahh]
  by_cases h0:i=0
  ·subst h0; simp
  ·by_cases h1:i=1
   ·subst h1; simp
   ·by_cases h2:i=2
    ·subst h2; simp
    ·have:¬ (0≤i∧i < ((3:Nat):Int)):=by omega
     rw [if_neg this]; simp [h0,h1,h2]
theorem ydrx(size:Nat)(a:Bool)(cs:List AV)(k:IntKind)(i:Int):yzo a size 2 (.agg cs) (.int k i) = if decide (i=0) = true then part a size cs 0 else if decide (i=1) = true then part a size cs size else none:=by
  rw [yahi]
  by_cases h0:i=0
  ·subst h0; simp
  ·by_cases h1:i=1
   ·subst h1; simp
   ·have:¬ (0≤i∧i < ((2:Nat):Int)):=by omega
    rw [if_neg this]; simp [h0,h1]
theorem ydry(size:Nat)(a:Bool)(cs:List AV)(k:IntKind)(i:Int):yzo a size 3 (.agg cs) (.int k i) = if decide (i=0) = true then part a size cs 0 else if decide (i=1) = true then part a size cs size else if decide (i=2) = true then part a size cs (2 * size) else none:=by
  rw [yahi]
  by_cases h0:i=0
  ·subst h0; simp
  ·by_cases h1:i=1
   ·subst h1; simp
   ·by_cases h2:i=2
    ·subst h2; simp
    ·have:¬ (0≤i∧i < ((3:Nat):Int)):=by omega
     rw [if_neg this]; simp [h0,h1,h2]
theorem ydkd(size:Nat)(row:List AV)(f:Nat)(k:IntKind)(i:Int):yoe size 2 (.iptr row f) (.int k i) = if decide (i=0) = true then some (.iptr row f) else if decide (i=1) = true then some (.iptr row (f + size)) else none:=by
  simp only [yoe]
  by_cases h0:i=0
  ·subst h0; simp
  ·by_cases h1:i=1
   ·subst h1; simp
   ·have:¬ (0≤i∧i < ((2:Nat):Int)):=by omega
    rw [if_neg this]; simp [h0,h1]
theorem ydke(size:Nat)(row:List AV)(f:Nat)(k:IntKind)(i:Int):yoe size 3 (.iptr row f) (.int k i) = if decide (i=0) = true then some (.iptr row f) else if decide (i=1) = true then some (.iptr row (f + size)) else if decide (i=2) = true then some (.iptr row (f + 2 * size)) else none:=by
  simp only [yoe]
  by_cases h0:i=0
  ·subst h0; simp
  ·by_cases h1:i=1
   ·subst h1; simp
   ·by_cases h2:i=2
    ·subst h2; simp
    ·have:¬ (0≤i∧i < ((3:Nat):Int)):=by omega
     rw [if_neg this]; simp [h0,h1,h2]
theorem ydnh{α:Type}(c:α→List AV)(l l':List α):sl c (l++l') = yca (l.map c++l'.map c):=by simp [sl,List.map_append]
theorem ycnz{α:Type}(c:α→List AV)(x:α)(l:List α):sl c (x :: l) = yca (c x :: l.map c):=rfl
theorem ybus:yca [] = yhq:=rfl
theorem ycqt(H:yq)(rows:List (List AV)):frz H (yca rows) = yca rows:=rfl
theorem ycem(H:yq)(rows:List (List AV)):ybm H (yca rows) = H:=rfl
theorem ycqx(f:Nat→Option Nat)(rows:List (List AV)):ren f (yca rows) = yca rows:=rfl
theorem ycel(rows:List (List AV)):yds (yca rows) = true:=rfl
theorem ycqu(rows:List (List AV)):yen (yca rows) = true:=rfl
theorem ydoe(rows:List (List AV)):ybw (yca rows) = false:=rfl
theorem ybuo(rows:List (List AV)):cellsOf (yca rows) = some [yca rows]:=rfl
theorem ycqv(rows:List (List AV)):yjb (yca rows) = some (.int .i64 rows.length):=rfl
theorem ybup(H:yq)(k:Nat)(rows:List (List AV))(todo:List AV)(acc:List Nat):yaw H (k + 1) (yca rows :: todo) acc=yaw H k todo acc:=by simp [yca,yaw]
theorem yatr(n:Nat)(H:yq)(r:List AV)(rs:List (List AV)):ydt n H (yca (r :: rs)) = if r.length=n then some (r :: rs) else none:=by
  simp only [yca,ydt,ykq,yfz,List.isEmpty_cons,Bool.false_or]
  by_cases h:r.length=n
  ·subst h; simp
  ·have:Nat.beq n r.length=false:=by
     cases hb:Nat.beq n r.length with
     | false=>rfl
     | true=>exact absurd (Nat.eq_of_beq_eq_true hb).symm h
   simp [h,this]
theorem ycqy(n:Nat)(H:yq)(r:List AV)(rs:List (List AV)):yci n H (yca (r :: rs)) = if r.length=n then some (r :: rs) else none:=yatr n H r rs
theorem ycqw{α:Type}(c:α→List AV)(l:List α):yca (l.map c) = sl c l:=rfl
theorem b_dt(h:Decidable True) : @decide True h=true:=by simp
theorem b_df(h:Decidable False) : @decide False h=false:=by simp
theorem ycpf(l:List (Nat × List AV × yq × Nat × (AV × yq × Nat)))(f g m m':Nat)(args args':List AV)(H H':yq)(x:AV × yq × Nat)(h:¬ g=f):tab ((f,args,H,m,x) :: l) g args' H' m' = tab l g args' H' m':=ydnr l f g m m' args args' H H' x (by cases hb:Nat.beq g f with | false=>rfl | true=>exact absurd (Nat.eq_of_beq_eq_true hb) h)
theorem ydky{α:Type}(n:Nat)(a:α):(List.replicate n a).length=n:=List.length_replicate
theorem ydlc{α β:Type}(f:α→β)(n:Nat)(a:α):List.map f (List.replicate n a) = List.replicate n (f a):=List.map_replicate
def EVx:=And.intro @ydtt <| And.intro @ycbs <| And.intro @ybsx <| And.intro @ycbf <| And.intro @ycex <| And.intro @yces <| And.intro @ybva <| And.intro @ybvi <| And.intro @ydsc <| And.intro @yclu <| And.intro @ybyl <| And.intro @ybvk <| And.intro @ycmc <| And.intro @ycme <| And.intro @ycmd <| And.intro @ycmf <| And.intro @ybyy <| And.intro @ydlg <| And.intro @ydky <| And.intro @ydlc <| And.intro @ybgs <| And.intro @ycey <| And.intro @ycmh <| And.intro @ycmi <| And.intro @ybyz <| And.intro @ybsq <| And.intro @ycod <| And.intro @ybyt <| And.intro @ycfh <| And.intro @ybyp <| And.intro @ycnd <| And.intro @ybuw <| And.intro @ycky <| And.intro @ydma <| And.intro @ybhd <| @ybru
def EVw:=And.intro EVx <| And.intro @ycrn <| And.intro @ybhe <| And.intro @yced <| And.intro @ycqk <| And.intro @yceg <| And.intro @ydnh <| And.intro @ydrv <| And.intro @ydrw <| And.intro @ydrx <| And.intro @ydry <| And.intro @ydkd <| And.intro @ydke <| And.intro @ybsr <| And.intro @yaad <| And.intro @ycef <| And.intro @ycee <| And.intro @ybtz <| And.intro @ybso <| And.intro @ydng <| And.intro @ycqw <| And.intro @b_dt <| And.intro @b_df <| And.intro @yahu <| And.intro @ydnq <| And.intro @ycnz <| And.intro @ybus <| And.intro @ycqt <| And.intro @ycem <| And.intro @ycqx <| And.intro @ycel <| And.intro @ycqu <| And.intro @ydoe <| And.intro @ybuo <| And.intro @ycqv <| And.intro @ybup <| And.intro @yatr <| And.intro @ycqy <| And.intro @ycbt <| And.intro @ycpf <| And.intro @b_tb (And.intro @b_fb (And.intro @ydlo (And.intro @ybqx (And.intro @ycqd (And.intro @ybtq (And.intro @ybtp (And.intro @ybtr (And.intro @ycqb (And.intro @ycqc (And.intro @ycbq (And.intro @ybsm (And.intro @ybra (And.intro @ycbo (And.intro @ycpd (And.intro @ybvx (And.intro @ybhz (And.intro @yayu (And.intro @ybqm (And.intro @ybei (And.intro @yasg (And.intro @ybej (And.intro @ybek (And.intro @ydsd (And.intro @ydse (And.intro @ycqm (And.intro @ybgt (And.intro @ybhy (And.intro @yayr (And.intro @yasf (And.intro @ybqj (And.intro @ybeh (And.intro @ydti (And.intro @ydtj (And.intro @ydto (And.intro @ydtp (And.intro @ydnc (And.intro @ycra (And.intro @ycrb (And.intro @ycrc (And.intro @ycrd (And.intro @ycre (And.intro @ycrf (And.intro @ycrg (And.intro @ycrh (And.intro @ycri (And.intro @ydlj (And.intro @ydlh (And.intro @ydln (And.intro @ycmj (And.intro @ycmk (And.intro @ydsh (And.intro @ycru (And.intro @ycrs (And.intro @ycrt (And.intro @ybgl (And.intro @ybvd (And.intro @ybhr (And.intro @ybve (And.intro @ybhs (And.intro @ybvf (And.intro @i_eq (And.intro @n_eq (And.intro @n_le (And.intro @k_eq (And.intro @ydru (And.intro @ybqb (And.intro @yckw (And.intro @ybxw (And.intro @ybsp (And.intro @ycoa (And.intro @ycob (And.intro @ycoc (And.intro @ybqd (And.intro @ydkl (And.intro @ybss (And.intro @ydtq (And.intro @ydtr (And.intro @ydts (And.intro @ycrk (And.intro @ybug (And.intro @ydmi (And.intro @ybua (@ybub)))))))))))))))))))))))))))))))))))))))))))))))))))))))))))))))))))))))))))))))))))
def EV:=And.intro EVw <| And.intro EVp <| And.intro EVl (And.intro EVa (And.intro EVb (And.intro EVc EVd)))
theorem ydox(c:Cfg)(s:St)(x:Opd):ybr c s (.mv x) = some ybv:=rfl
theorem ycfn(c:Cfg)(s:St)(x y z:Opd):ybr c s (.pick x y z) = some ybv:=rfl
theorem ycsf(c:Cfg)(s:St)(o:BinOp)(x y:Opd):ybr c s (.bin o x y) = some ybv:=rfl
theorem ycsm(c:Cfg)(s:St)(g:Bool)(x y:Opd):ybr c s (.eqb g x y) = some ybv:=rfl
theorem ycso(c:Cfg)(s:St)(g:Bool)(x:Opd):ybr c s (.eqn g x) = some ybv:=rfl
theorem ycsn(c:Cfg)(s:St)(g:Bool)(l:List (Nat × Nat))(x y:Opd):ybr c s (.eqc g l x y) = some ybv:=rfl
theorem ycsx(c:Cfg)(s:St)(x:Opd):ybr c s (.ngt x) = some ybv:=rfl
theorem ydpa(c:Cfg)(s:St)(x:Opd):ybr c s (.nt x) = some ybv:=rfl
theorem ycsl(c:Cfg)(s:St)(q:IntKind)(x:Opd):ybr c s (.cvt q x) = some ybv:=rfl
theorem ycsk(c:Cfg)(s:St)(x:Opd):ybr c s (.cst x) = some ybv:=rfl
theorem ybwa(c:Cfg)(s:St)(z:List AV)(ps:List (Nat × Nat × Opd)):ybr c s (.build z ps) = some ybv:=rfl
theorem ycsq(c:Cfg)(s:St)(a:Bool)(z o:Nat)(x:Opd):ybr c s (.fld a z o x) = some ybv:=rfl
theorem ycsp(c:Cfg)(s:St)(j:Nat)(x:Opd):ybr c s (.ext j x) = some ybv:=rfl
theorem ydou(c:Cfg)(s:St)(o:Nat)(x:Opd):ybr c s (.fa o x) = some ybv:=rfl
theorem ycss(c:Cfg)(s:St)(z:Nat)(x y:Opd):ybr c s (.ias z x y) = some ybv:=rfl
theorem ycsr(c:Cfg)(s:St)(z l:Nat)(x y:Opd):ybr c s (.iaa z l x y) = some ybv:=rfl
theorem ycsu(c:Cfg)(s:St)(x y:Opd):ybr c s (.ixs x y) = some ybv:=rfl
theorem ycst(c:Cfg)(s:St)(a:Bool)(z l:Nat)(x y:Opd):ybr c s (.ixa a z l x y) = some ybv:=rfl
theorem ycta(c:Cfg)(s:St)(x:Opd)(lo hi:Option Opd):ybr c s (.sls x lo hi) = some ybv:=rfl
theorem ycsz(c:Cfg)(s:St)(z:Nat)(x:Opd)(lo hi mx:Option Opd):ybr c s (.sll z x lo hi mx) = some ybv:=rfl
theorem ycsv(c:Cfg)(s:St)(f:Nat)(a b:List Opd):ybr c s (.mkf f a b) = some ybv:=rfl
theorem ydoz(c:Cfg)(s:St)(x:Opd):ybr c s (.nc x) = some ybv:=rfl
theorem ycfm(c:Cfg)(s:St)(x:Opd):ybr c s (.lens x) = some ybv:=rfl
theorem ycfl(c:Cfg)(s:St)(x:Opd):ybr c s (.lenl x) = some ybv:=rfl
theorem ydoy(c:Cfg)(s:St)(x y:Opd):ybr c s (.mx x y) = some ybv:=rfl
theorem ydow(c:Cfg)(s:St)(x y:Opd):ybr c s (.mn x y) = some ybv:=rfl
theorem ybvz(c:Cfg)(s:St)(z:List AV):ybr c s (.alloc z) = some ybv:=rfl
theorem ycsg(c:Cfg)(s:St)(x:Opd):ybr c s (.box x) = some ybv:=rfl
theorem ycsw(c:Cfg)(s:St)(es:Nat)(z:List AV)(l m:Opd):ybr c s (.mks es z l m) = some ybv:=rfl
theorem ycsy(c:Cfg)(s:St)(x:Opd):ybr c s (.s2b x) = some ybv:=rfl
theorem ydov(c:Cfg)(s:St)(a:Bool)(z:Nat)(p:Opd):ybr c s (.ld a z p) = some ⟨idL (s.ev p),[],[]⟩:=rfl
theorem ydpb(c:Cfg)(s:St)(z:Nat)(p x:Opd):ybr c s (.st z p x) = some ⟨[],[],idL (s.ev p)++ybf (s.ev x)⟩:=rfl
theorem ycsh(c:Cfg)(s:St)(es:Nat)(z:List AV)(n:Nat)(ps:List (Nat × Opd)):ybr c s (.bsl es z n ps) = some ⟨[],yeh (yeq (s.evp ps)),[]⟩:=rfl
theorem ycsd(c:Cfg)(s:St)(z:Nat)(x y:Opd):ybr c s (.app z x y) = some ⟨ybf (s.ev y),[],ybf (s.ev x)⟩:=rfl
theorem ycsj(c:Cfg)(s:St)(z:Nat)(x y:Opd):ybr c s (.cpy z x y) = some ⟨ybf (s.ev y),[],ybf (s.ev x)⟩:=rfl
theorem ycsi(c:Cfg)(s:St)(z:Nat)(x:Opd):ybr c s (.cln z x) = some ⟨ybf (s.ev x),[],[]⟩:=rfl
theorem ycse(c:Cfg)(s:St)(x:Opd):ybr c s (.b2s x) = some ⟨ybf (s.ev x),[],[]⟩:=rfl
def fcL:Option (List Nat)→Option ycs
  | some l=>some ⟨[],[],l⟩
  | none=>none
theorem ybvq(l:List Nat):fcL (some l) = some ⟨[],[],l⟩:=rfl
theorem ybvs(c:Cfg)(s:St)(f:Nat)(L:List AV):yid c s f L=if c.fz f=true then some ⟨[],yeh L,[]⟩ else fcL (yba s.H yea L []):=by
  unfold yid fcL
  split
  ·rfl
  ·cases yba s.H yea L [] <;> rfl
theorem ycfk(c:Cfg)(s:St)(f:Nat)(as:List Opd):ybr c s (.call f as) = yid c s f (s.evs as):=rfl
def fcV(c:Cfg)(s:St)(as:List AV):AV→Option ycs
  | .fn (.func f) pre post=>yid c s f (pre++(as++post))
  | _=>none
theorem ybwb(c:Cfg)(s:St)(g:Opd)(as:List Opd):ybr c s (.callv g as) = fcV c s (s.evs as) (s.ev g):=by
  simp only [ybr,fcV]
  cases s.ev g <;> first | rfl | (rename_i f _ _; cases f <;> rfl)
theorem ycsa(c:Cfg)(s:St)(as pre post:List AV)(f:Nat):fcV c s as (.fn (.func f) pre post) = yid c s f (pre++(as++post)):=rfl
theorem ybqy:ybv = ⟨[],[],[]⟩:=rfl
theorem yckx(id o:Nat):idL (.ptr id o) = [id]:=rfl
theorem ybxx(id i f:Nat):idL (.eptr id i f) = [id]:=rfl
theorem ybxy(r:List AV)(f:Nat):idL (.iptr r f) = []:=rfl
theorem yclf(es id off len:Nat)(ex:Bool):ybf (.own es id off len ex) = [id]:=rfl
theorem yckz(cs:List AV):ybf (.agg cs) = yeh cs:=by simp only [ybf]
theorem ycli(cs:List AV):ybf (.tup cs) = yeh cs:=by simp only [ybf]
theorem yclc(k:IntKind)(n:Int):ybf (.int k n) = []:=rfl
theorem ybya(b:Bool):ybf (.bool b) = []:=rfl
theorem yclh(b:ByteArray):ybf (.str b) = []:=rfl
theorem ycld:ybf .nil = []:=rfl
theorem ybyd:ybf yhq = []:=rfl
theorem ydkh(rows:List (List AV)):ybf (yca rows) = []:=rfl
theorem ydkj{α:Type}(f:α→List AV)(l:List α):ybf (sl f l) = []:=rfl
theorem yclb(es:Nat)(rows:List (List AV))(ex:Bool):ybf (.imm es rows ex) = []:=rfl
theorem yclg(id o:Nat):ybf (.ptr id o) = []:=rfl
theorem ybyb(id i f:Nat):ybf (.eptr id i f) = []:=rfl
theorem ybyc(r:List AV)(f:Nat):ybf (.iptr r f) = []:=rfl
theorem ydki(g:Fn)(a b:List AV):ybf (.fn g a b) = []:=rfl
theorem ycle(v:Value):ybf (.oth v) = []:=rfl
theorem ydkk:ybf .un = []:=rfl
theorem ycla:ybf .bad = []:=rfl
theorem ybye:yeh [] = []:=rfl
theorem ybqc(v:AV)(r:List AV):yeh (v :: r) = ybf v++yeh r:=by simp only [yeh]
theorem ydnu:yeq [] = []:=rfl
theorem ycpl(i:Nat)(v:AV)(r:List (Nat × AV)):yeq ((i,v) :: r) = v :: yeq r:=rfl
theorem ydli(x:Nat):yno x [] = false:=rfl
theorem ycmg(x y:Nat)(r:List Nat):yno x (y :: r) = (Nat.beq y x || yno x r):=rfl
theorem ycrp(b:List Nat):djB [] b=true:=rfl
theorem yceu(x:Nat)(r b:List Nat):djB (x :: r) b=(!(yno x b) && djB r b):=rfl
theorem ydls(q:Nat):yrf q [] = true:=rfl
theorem ycml(q x:Nat)(r:List Nat):yrf q (x :: r) = ((decide (x < q) || decide (q + 64≤x)) && yrf q r):=by
  have h1:Nat.blt x q=decide (x < q):=by rw [Bool.eq_iff_iff,Nat.blt_eq]; simp
  have h2:Nat.ble (q + 64) x=decide (q + 64≤x):=by rw [Bool.eq_iff_iff,Nat.ble_eq]; simp
  simp only [yrf,h1,h2]
theorem ydlz(base:Nat)(fs:List ycs):yml base fs [] = true:=rfl
theorem ycms(base:Nat)(fs:List ycs)(i j:Nat)(r:List (Nat × Nat)):yml base fs ((i,j) :: r) = (yzq base i j fs[i]? fs[j]? && yml base fs r):=rfl
theorem ycmu(base i j:Nat)(a b d x y z:List Nat):yzq base i j (some ⟨a,b,d⟩) (some ⟨x,y,z⟩) = (djB d (x++(y++z)) && (djB z (a++b) && (yrf (base + i * 64) (x++(y++z)) && yrf (base + j * 64) (a++(b++d))))):=rfl
def rmJ(H:yq)(k id:Nat)(todo:List AV)(acc:List Nat):Option Ob→Option (List Nat)
  | some _=>if id∈acc then yba H k todo acc else yba H k todo (acc++[id])
  | none=>if id∈acc then yba H k todo acc else none
def rmK(H:yq)(k id:Nat)(todo:List AV)(acc:List Nat):Option Ob→Option (List Nat)
  | some (.box cells)=>if id∈acc then yba H k todo acc else yba H k (cells++todo) (acc++[id])
  | some _=>if id∈acc then yba H k todo acc else yba H k todo (acc++[id])
  | none=>if id∈acc then yba H k todo acc else none
theorem ycbb(H:yq)(k id:Nat)(todo:List AV)(acc:List Nat)(o:Ob):rmJ H k id todo acc (some o) = if id∈acc then yba H k todo acc else yba H k todo (acc++[id]):=rfl
theorem ycnq(H:yq)(k id:Nat)(todo:List AV)(acc:List Nat)(cells:List AV):rmK H k id todo acc (some (.box cells)) = if id∈acc then yba H k todo acc else yba H k (cells++todo) (acc++[id]):=rfl
theorem ycnp(H:yq)(k id:Nat)(todo:List AV)(acc:List Nat)(es:Nat)(rows:List (List AV))(leak:Nat):rmK H k id todo acc (some (.arr es rows leak)) = if id∈acc then yba H k todo acc else yba H k todo (acc++[id]):=rfl
theorem ydmw(H:yq)(k:Nat)(acc:List Nat):yba H (k + 1) [] acc=some acc:=rfl
theorem ydmy(H:yq)(k es id off len:Nat)(ex:Bool)(todo:List AV)(acc:List Nat):yba H (k + 1) (.own es id off len ex :: todo) acc=rmJ H k id todo acc (lk H id):=by
  simp only [yba,rmJ]
  cases lk H id <;> rfl
theorem ycns(H:yq)(k id i f:Nat)(todo:List AV)(acc:List Nat):yba H (k + 1) (.eptr id i f :: todo) acc=rmJ H k id todo acc (lk H id):=by
  simp only [yba,rmJ]
  cases lk H id <;> rfl
theorem ydmz(H:yq)(k id off:Nat)(todo:List AV)(acc:List Nat):yba H (k + 1) (.ptr id off :: todo) acc=rmK H k id todo acc (lk H id):=by
  simp only [yba,rmK]
  cases lk H id with
  | none=>rfl
  | some o=>cases o <;> rfl
theorem ydtl(H:yq)(k:Nat)(g:Fn)(pre post todo:List AV)(acc:List Nat):yba H (k + 1) (.fn g pre post :: todo) acc=yba H k (pre++(post++todo)) acc:=rfl
theorem ydms(H:yq)(k:Nat)(cs todo:List AV)(acc:List Nat):yba H (k + 1) (.agg cs :: todo) acc=yba H k (cs++todo) acc:=rfl
theorem ydnb(H:yq)(k:Nat)(cs todo:List AV)(acc:List Nat):yba H (k + 1) (.tup cs :: todo) acc=yba H k (cs++todo) acc:=rfl
theorem ydmv(H:yq)(k:Nat)(q:IntKind)(n:Int)(todo:List AV)(acc:List Nat):yba H (k + 1) (.int q n :: todo) acc=yba H k todo acc:=rfl
theorem ycnr(H:yq)(k:Nat)(b:Bool)(todo:List AV)(acc:List Nat):yba H (k + 1) (.bool b :: todo) acc=yba H k todo acc:=rfl
theorem ydna(H:yq)(k:Nat)(b:ByteArray)(todo:List AV)(acc:List Nat):yba H (k + 1) (.str b :: todo) acc=yba H k todo acc:=rfl
theorem ycnv(H:yq)(k:Nat)(todo:List AV)(acc:List Nat):yba H (k + 1) (.nil :: todo) acc=yba H k todo acc:=rfl
theorem ycnu(H:yq)(k:Nat)(todo:List AV)(acc:List Nat):yba H (k + 1) (yhq :: todo) acc=yba H k todo acc:=rfl
theorem ydtm{α:Type}(f:α→List AV)(l:List α)(H:yq)(k:Nat)(todo:List AV)(acc:List Nat):yba H (k + 1) (sl f l :: todo) acc=yba H k todo acc:=rfl
theorem ydtk(rows:List (List AV))(H:yq)(k:Nat)(todo:List AV)(acc:List Nat):yba H (k + 1) (yca rows :: todo) acc=yba H k todo acc:=rfl
theorem ydtn(H:yq)(k:Nat)(todo:List AV)(acc:List Nat):yba H (k + 1) (.un :: todo) acc=yba H k todo acc:=rfl
theorem ydmt(H:yq)(k:Nat)(todo:List AV)(acc:List Nat):yba H (k + 1) (.bad :: todo) acc=yba H k todo acc:=rfl
theorem ydmx(H:yq)(k:Nat)(v:Value)(todo:List AV)(acc:List Nat):yba H (k + 1) (.oth v :: todo) acc=yba H k todo acc:=rfl
theorem ydmu(H:yq)(k es:Nat)(rows:List (List AV))(ex:Bool)(todo:List AV)(acc:List Nat):yba H (k + 1) (.imm es rows ex :: todo) acc=yba H k todo acc:=rfl
theorem ycnt(H:yq)(k:Nat)(row:List AV)(f:Nat)(todo:List AV)(acc:List Nat):yba H (k + 1) (.iptr row f :: todo) acc=yba H k todo acc:=rfl
theorem ydsg(a b:Nat)(h:¬ a=b):Nat.beq a b=false:=by
  cases hb:Nat.beq a b with
  | false=>rfl
  | true=>exact absurd (Nat.eq_of_beq_eq_true hb) h
theorem ydsf(a:Nat):Nat.beq a a=true:=Nat.beq_refl a
def EVg:=And.intro @ydox <| And.intro @ycfn <| And.intro @ycsf <| And.intro @ycsm <| And.intro @ycso <| And.intro @ycsn <| And.intro @ycsx <| And.intro @ydpa <| And.intro @ycsl <| And.intro @ycsk <| And.intro @ybwa <| And.intro @ycsq <| And.intro @ycsp <| And.intro @ydou <| And.intro @ycss <| And.intro @ycsr <| And.intro @ycsu <| And.intro @ycst <| And.intro @ycta <| And.intro @ycsz <| And.intro @ycsv <| And.intro @ydoz <| And.intro @ycfm <| And.intro @ycfl <| And.intro @ydoy <| And.intro @ydow <| And.intro @ybvz <| And.intro @ycsg <| And.intro @ycsw <| And.intro @ycsy <| And.intro @ydov <| And.intro @ydpb <| And.intro @ycsh <| And.intro @ycsd <| And.intro @ycsj <| And.intro @ycsi <| And.intro @ycse <| And.intro @ybvq <| And.intro @ybvs <| And.intro @ycfk <| And.intro @ybwb <| And.intro @ycsa <| And.intro @ybqy <| And.intro @yckx <| And.intro @ybxx <| And.intro @ybxy <| And.intro @yclf <| And.intro @yckz <| And.intro @ycli <| And.intro @yclc <| And.intro @ybya <| And.intro @yclh <| And.intro @ycld <| And.intro @ybyd <| And.intro @ydkh <| And.intro @ydkj <| And.intro @yclb <| And.intro @yclg <| And.intro @ybyb <| And.intro @ybyc <| And.intro @ydki <| And.intro @ycle <| And.intro @ydkk <| And.intro @ycla <| And.intro @ybye <| And.intro @ybqc <| And.intro @ydnu <| And.intro @ycpl <| And.intro @ydli <| And.intro @ycmg <| And.intro @ycrp <| And.intro @yceu <| And.intro @ydls <| And.intro @ycml <| And.intro @ydlz <| And.intro @ycms <| And.intro @ycmu <| And.intro @ycbb <| And.intro @ycnq <| And.intro @ycnp <| And.intro @ydmw <| And.intro @ydmy <| And.intro @ycns <| And.intro @ydmz <| And.intro @ydtl <| And.intro @ydms <| And.intro @ydnb <| And.intro @ydmv <| And.intro @ycnr <| And.intro @ydna <| And.intro @ycnv <| And.intro @ycnu <| And.intro @ydtm <| And.intro @ydtk <| And.intro @ydtn <| And.intro @ydmt <| And.intro @ydmx <| And.intro @ydmu <| And.intro @ycnt <| And.intro @ydsg <| And.intro @ydsf <| And.intro @ycer <| And.intro @ydon <| And.intro @ydom <| And.intro @ydog <| And.intro @ydod <| And.intro @ybhi <| And.intro @ybze <| And.intro @ybzd <| And.intro @ybvn <| And.intro @ybhv <| And.intro @ybzf <| And.intro @ycrw <| And.intro @ybvb <| And.intro @ybvc <| And.intro @ydot <| And.intro @ydos <| And.intro @yays <| @yayt
end Go.Proofs.YtgoachcogmlhcaaGreat.R
