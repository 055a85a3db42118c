import Derived.Test.YtgoachcogmlhcaaRFrz
import Derived.Laws.AppendOwn
import Derived.Laws.BytesString
import Derived.IntWalk
import Derived.Laws.MakeOwn
import Derived.Tactics
import Derived.LoopN
set_option linter.unusedVariables false
set_option linter.unusedSectionVars false
set_option linter.unusedSimpArgs false
noncomputable section
namespace Go.Proofs.Ytgoachcogmlhcaa.R
open Go
theorem ydt.pre{A:Nat->Nat->Prop}{O:Rho}{s s':St}{w w1 w':World}{v:AV}{x:Value}(h:yjs w w1)(hp:ydt A O s w1 v s' x w'):ydt A O s w v s' x w':=by
  obtain ⟨h1,h2,Z,h3,h4,h5,h6⟩:=hp
  exact ⟨h1,h2,Z,h3,h4,h5,(h.fr O s.H).trans h6⟩
section
variable {P:Program} {w:World} {A:Nat->Nat->Prop} {U:Nat->Nat->Prop} {O:Rho}
theorem yawy{es:Nat}{rows:List (List AV)}{C D:List Value}(h:ARs w U es rows C):ARs w U es rows (C++D):=by
  refine yni fun i r hi=>?_
  obtain ⟨g1,g2,g3,g4⟩:=yid h hi
  rw [we] at g2 ⊢
  have:((C++D).drop (i * es)).take es=(C.drop (i * es)).take es:=by
    rw [List.drop_append_of_le_length (by omega),List.take_append_of_le_length (by rw [wq]; omega)]
  rw [this]
  exact ⟨g1,by rw [wk]; omega,g3,g4⟩
theorem yly{es:Nat}:∀ {rows rows':List (List AV)} {C D:List Value},ARs w U es rows C->C.length=rows.length * es->ARs w U es rows' D->ARs w U es (rows++rows') (C++D)
  | [],rows',C,D,h,hl,h'=>by
    have:C = []:=wg (by simpa using hl)
    subst this
    simpa using h'
  | r :: rs,rows',C,D,h,hl,h'=>by
    simp only [ARs,jn] at h ⊢
    obtain ⟨h1,h2,h3,h4⟩:=h
    simp only [ws,we] at hl
    have ht:(C++D).take es=C.take es:=List.take_append_of_le_length h2
    refine ⟨h1,by rw [wk]; omega,by rw [ht]; exact h3,?_⟩
    rw [List.drop_append_of_le_length h2]
    exact yly h4 (by rw [wq]; omega) h'
def yaan(w:World)(U:Nat->Nat->Prop)(es:Nat)(rows:List (List AV))(b o:Nat):Prop:=
  ∀ (i:Nat) (r:List AV),rows[i]? = some r->r.length=es/\∀ (j:Nat) (a:AV),r[j]? = some a->∃ v,w.cell? ⟨b,o + i * es + j,none⟩ = some v/\yib v=true/\VR w U ych a v
theorem yaib{b:Nat}:∀ {as:List AV} {o:Nat},(∀ (j:Nat) (a:AV),as[j]? = some a->∃ v,w.cell? ⟨b,o + j,none⟩ = some v/\yib v=true/\VR w U ych a v) ->
    ∃ cs,VRs w U ych as cs/\(∀ x∈cs,yib x=true)/\∀ (j:Nat) (v:Value),cs[j]? = some v->w.cell? ⟨b,o + j,none⟩ = some v
  | [],o,h=>⟨[],by simp [VRs],by simp,by simp⟩
  | a :: as,o,h=>by
    obtain ⟨v,h1,h0,h2⟩:=h 0 a rfl
    obtain ⟨cs,h3,h5,h4⟩:=yaib (as:=as) (o:=o + 1) (fun j a' hj=>by
      obtain ⟨v,g1,g2⟩:=h (j + 1) a' (by simpa using hj)
      exact ⟨v,by rw [show o + 1 + j=o + (j + 1) by omega]; exact g1,g2⟩)
    refine ⟨v :: cs,by simp only [VRs]; exact ⟨v,cs,rfl,h2,h3⟩,?_,fun j v' hj=>?_⟩
    .intro x hx
     rcases wt.1 hx with rfl | hx
     .exact h0
     .exact h5 x hx
    .cases j with
     | zero=>simp at hj; subst hj; exact h1
     | succ j=>simp at hj; rw [show o + (j + 1) = o + 1 + j by omega]; exact h4 j v' hj
theorem yaan.list{es b:Nat}:∀ {rows:List (List AV)} {o:Nat},yaan w U es rows b o->∃ cs,cs.length=rows.length * es/\ARs w U es rows cs/\∀ (j:Nat) (v:Value),cs[j]? = some v->w.cell? ⟨b,o + j,none⟩ = some v
  | [],o,h=>⟨[],by simp,by simp [ARs],by simp⟩
  | r :: rs,o,h=>by
    obtain ⟨h1,h2⟩:=h 0 r rfl
    obtain ⟨cs,g1,g2,g3⟩:=yaib (as:=r) (o:=o) (fun j a hj=>by simpa using h2 j a hj)
    have hl:=ycd g1
    obtain ⟨ds,k1,k2,k3⟩:=yaan.list (rows:=rs) (o:=o + es) (fun i r' hi=>by
      obtain ⟨q1,q2⟩:=h (i + 1) r' (by simpa using hi)
      refine ⟨q1,fun j a hj=>?_⟩
      obtain ⟨v,q3⟩:=q2 j a hj
      exact ⟨v,by rw [show o + es + i * es + j=o + (i + 1) * es + j by rw [we]; omega]; exact q3⟩)
    refine ⟨cs++ds,?_,?_,?_⟩
    .rw [wk,k1,ws,we]; omega
    .simp only [ARs]
     have ht:(cs++ds).take es=cs:=by rw [List.take_append_of_le_length (by omega)]; exact wm (by omega)
     have hd:(cs++ds).drop es=ds:=by rw [← h1,hl]; exact List.drop_left
     exact ⟨h1,by rw [wk]; omega,by rw [ht]; exact ⟨g1,g2⟩,by rw [hd]; exact k2⟩
    .intro j v hj
     rw [List.getElem?_append] at hj
     split at hj
     .exact g3 j v hj
     .rename_i hjl
      have:=k3 _ v hj
      rwa [show o + es + (j - cs.length) = o + j by omega] at this
theorem ybbl{es b o:Nat}{rows:List (List AV)}(h:RWs w U rows b o es):yaan w U es rows b o:=fun i r hi=>by
  obtain ⟨h1,h2⟩:=yaco h hi
  refine ⟨h1,fun j a hj=>?_⟩
  obtain ⟨v,g1,g2,g3,g4⟩:=yalj h2 hj
  exact ⟨v,g1,g3,g4⟩
theorem ybbm{H:yr}{nx:Nat}(hr:Rep A O H nx w){id b es es' leak:Nat}{rows:List (List AV)}(hid:lk H id=some (.arr es' rows leak))(hρ:O id=some (b,es))(off len:Nat):yaan w (UU A O H) es ((rows.drop off).take len) b (off * es):=fun i r hi=>by
  obtain ⟨_,_,C,e,fr,q1,q2,q3⟩:=hr.ob id _ b es hid hρ
  rw [qn] at hi
  split at hi
  .rw [qo] at hi
   obtain ⟨g1,g2,g3,g4⟩:=yid q3 hi
   refine ⟨g1,fun j a hj=>?_⟩
   obtain ⟨v,k1,k2⟩:=ydz g3 hj
   have k3:=g4 v (wa k1)
   rw [qn] at k1
   split at k1
   .rw [qo,qu] at k1
    refine ⟨v,?_,k3,k2⟩
    rw [yfa q1,show off * es + i * es + j=(off + i) * es + j by rw [jo]]
    exact k1
   .cases k1
  .cases hi
theorem ynu{H:yr}{nx:Nat}(hr:Rep A O H nx w){es:Nat}{a:AV}{X:Value}{rows:List (List AV)}(ha:VR w (UU A O H) O a X)(h:ydc es H a=some rows) :
    ∃ cs:List Value,cs.length=rows.length * es/\ARs w (UU A O H) es rows cs/\(∀ w',(Builtin.lenOf X).run P w' = .ok rows.length w') /\
      ∀ w',w'.heap=w.heap->∀ n,n<=rows.length->(Builtin.firstCells es n X).run P w' = .ok (cs.take (n * es)).toArray w':=by
  have mem:∀ (b o:Nat) (cs:List Value),(∀ (j:Nat) (v:Value),cs[j]? = some v->w.cell? ⟨b,o + j,none⟩ = some v)->cs.length=rows.length * es->∀ len c w',w'.heap=w.heap->∀ n,n<=rows.length ->
   (Builtin.firstCells es n (.slice (some ⟨b,o,none⟩) len c)).run P w' = .ok (cs.take (n * es)).toArray w':=by
    intro b o cs hcs hl len c w' hw n hn
    refine run_firstCells_some w' es n ⟨b,o,none⟩ len c (cs.take (n * es)) ?_ ?_
    .rw [qp,hl]
     exact wi (qx _ hn)
    .intro j v hj
     rw [qn] at hj
     split at hj
     .rw [ynb]
      have:=hcs j v hj
      unfold World.cell? at this ⊢
      rw [hw]; exact this
     .cases hj
  cases a with
  | nil=>
    simp only [ydc,yei,qa] at h
    subst h
    simp only [VR] at ha
    subst ha
    refine ⟨[],by simp,by simp [ARs],fun w'=>rfl,fun w' _ n hn=>?_⟩
    have:n=0:=by simpa using hn
    subst this
    simp [run_firstCells_none]
  | str s=>
    simp only [ydc] at h
    split at h
    .rename_i he
     subst he
     simp only [qa] at h
     subst h
     simp only [VR] at ha
     subst ha
     refine ⟨s.data.toList.map fun b=>.int .u8 b.toNat,by simp [yiv],?_,fun w'=>?_,fun w' _ n hn=>?_⟩
     .refine yni fun i r hi=>?_
      simp only [yiv,jw,Option.map_eq_some_iff] at hi
      obtain ⟨b,hb,rfl⟩:=hi
      have hlt:i < s.data.toList.length:=by
        rcases qz i s.data.toList.length with hl | hl
        .exact hl
        .rw [qm hl] at hb; cases hb
      have hd:((s.data.toList.map fun b=>Value.int .u8 b.toNat).drop (i * 1)).take 1 = [.int .u8 b.toNat]:=by
        rw [Nat.mul_one,List.drop_eq_getElem_cons (by simpa using hlt)]
        rw [qj hlt] at hb
        simp only [qa] at hb
        simp [hb]
      rw [hd]
      refine ⟨rfl,by simp at hlt ⊢; omega,?_,?_⟩
      .simp [yxc,VRs,VR]
      .simp [yib]
     .simp [Builtin.lenOf,yiv]
     .simp only [yiv,wj,Array.length_toList] at hn
      simp only [Builtin.firstCells,Sem.run_pure,Nat.mul_one,Result.ok.injEq,and_true]
      apply Array.ext'
      simp [ByteArray.extract,List.map_take]
      rw [ByteArray.copySlice]
      simp
    .cases h
  | imm es' rows' ex=>
    simp only [ydc,yei] at h
    split at h
    .rename_i he
     have he:=yarq he
     simp only [qa] at h
     subst h
     simp only [VR] at ha
     obtain ⟨B,c,rfl,g1,g2,g3⟩:=ha
     have g3:rows' = []\/∃ b o,B=some ⟨b,o,none⟩/\RWs w (UU A O H) rows' b o es:=by
       rcases he with he | he
       .exact .inl he
       .rw [← he]; exact g3
     rcases g3 with rfl | ⟨b,o,rfl,g4⟩
     .refine ⟨[],by simp,by simp [ARs],fun w'=>rfl,fun w' _ n hn=>?_⟩
      have:n=0:=by simpa using hn
      subst this
      cases B with
      | none=>simp [run_firstCells_none]
      | some bb=>simp [Builtin.firstCells,loadCells,loadCellsFrom]
     .obtain ⟨cs,k1,k2,k3⟩:=(ybbl g4).list
      exact ⟨cs,k1,k2,fun w'=>rfl,mem b o cs k3 k1 _ _⟩
    .cases h
  | own es' id off len ex=>
    simp only [ydc,yei] at h
    split at h
    .rename_i he
     subst he
     split at h
     .rename_i es2 rows2 leak hid
      split at h
      .rename_i hle
       simp only [qa] at h
       subst h
       have hlen:((rows2.drop off).take len).length=len:=by rw [qp,wq]; omega
       simp only [VR] at ha
       obtain ⟨B,c,rfl,g1,g2,g3⟩:=ha
       rcases g3 with ⟨rfl,rfl⟩ | ⟨b,C,e,fr,g4,rfl,g5,g6⟩
       .refine ⟨[],by simp,by simp [ARs],fun w'=>by simp [Builtin.lenOf],fun w' _ n hn=>?_⟩
        have:n=0:=by simpa using hn
        subst this
        cases B with
        | none=>simp [run_firstCells_none]
        | some bb=>simp [Builtin.firstCells,loadCells,loadCellsFrom]
       .obtain ⟨cs,k1,k2,k3⟩:=(ybbm hr hid g4 off len).list
        exact ⟨cs,k1,k2,fun w'=>by rw [hlen]; rfl,mem b _ cs k3 k1 _ _⟩
      .cases h
     .cases h
    .cases h
  | _=>simp [ydc,yei] at h
theorem yalh{es:Nat}{rows:List (List AV)}{C:List Value}(h:ARs w U es rows C)(hl:C.length=rows.length * es):∀ x∈C,yib x=true:=by
  intro x hx
  obtain ⟨k,hk⟩:=List.mem_iff_getElem?.1 hx
  have hlt:k < C.length:=by
    rcases qz k C.length with hl | hl
    .exact hl
    .rw [qm hl] at hk; cases hk
  rcases jf es with rfl | hz
  .rw [Nat.mul_zero] at hl; omega
  .have hi:k / es < rows.length:=by
     rw [Nat.div_lt_iff_lt_mul hz]; omega
   obtain ⟨g1,g2,g3,g4⟩:=yid h (qj hi)
   refine g4 x (wa (i:=k % es) ?_)
   rw [qn,qe (Nat.mod_lt _ hz),qo,show k / es * es + k % es=k by rw [Nat.mul_comm]; exact Nat.div_add_mod k es]
   exact hk
theorem yvi{s:St}(hr:Rep A O s.H s.nx w){es:Nat}{rows:List (List AV)}(hz:0 < es){C:Array Value}{e:TypeId}{fr:Nat × Nat}(hA:ARs w (UU A O s.H) es rows C.toList)(hu:unfr fr C.size){cap:Nat}(hcap:cap * es<=C.size)(hle:rows.length<=cap)
    {ex:Bool} (hex:ex=true->cap=rows.length) (leak:Nat) :
    ydt A O s w (.own es s.nx 0 rows.length ex) (s.add (.arr es rows leak)) (.slice (some ⟨w.heap.size,0,none⟩) rows.length cap) (yir w (.cells C e fr)):=by
  have hfr:=yahq hr (.arr es rows leak) C e fr es
  refine ⟨rfl,rfl,yjm O s.nx (w.heap.size,es),yaxa hr ?_,?_,hr.ext2 _,hfr⟩
  .refine ⟨rfl,hz,C,e,fr,?_,hu,yhu hfr.stay hA⟩
   simp only [yir,yrt,wl]
  .simp only [VR]
   refine ⟨_,cap,rfl,hle,hex,.inr ⟨w.heap.size,C,e,fr,yic _ _ _,by simp,?_,by simpa using hcap⟩⟩
   simp only [yir,yrt,wl]
theorem ywq{s:St}(hr:Rep A O s.H s.nx w)(es:Nat)(B:Option Addr){ex:Bool}(leak:Nat):ydt A O s w (.own es s.nx 0 0 ex) (s.add (.arr es [] leak)) (.slice B 0 0) w:=by
  obtain ⟨h1,h2⟩:=yxv hr (.arr es [] leak)
  refine ⟨rfl,rfl,O,h1,?_,ygs.more _ _,h2⟩
  simp only [VR]
  exact ⟨B,0,rfl,by simp⟩
structure yacn (P:Program) (t t2:TypeId) (es:Nat):Prop where
  ex:∃ e xe x2 z,P.underlying t=some (.slice e)/\ybt P e=some xe/\ybt P t2=some x2/\zeroCells xe=some z/\0 < xe.size/\xe.bytes<=256/\z.length=xe.size/\intB x2.desc=false/\es=xe.size
theorem ybtq{xe:TI}{z:List AV}(hz:zeroCells xe=some z):∃ zv,xe.zero=some zv/\zv.cells.size=z.length:=by
  obtain ⟨zv,h1,_,h2⟩:=ysa hz
  have:=ycd (h2 (w:=default) (U:=fun _ _=>False) (O:=ych))
  exact ⟨zv,h1,by simpa using this.symm⟩
theorem yvf{t t2 ty:TypeId}{es:Nat}(hT:yacn P t t2 es){B:Option Addr}{n c m:Nat}{X:Value}{news:List Value}(hl:∀ w',(Builtin.lenOf X).run P w' = .ok m w')(hf:(Builtin.firstCells es m X).run P w = .ok news.toArray w)(hroom:n + m<=c)
    {w':World} (hst:(match B with | some a=>storeCells (a.add (n * es)) news | none=>pure ():Sem Unit).run P w = .ok () w') :
    (Builtin.append_ #[t,t2] ty #[.slice B n c,X]).run P w = .ok (.slice B (n + m) c) w':=by
  obtain ⟨e,xe,x2,z,h1,h2,h3,h4,h5,h6,h7,h8,rfl⟩:=hT.ex
  have hu2:=ycc h3
  simp only [Builtin.append_,List.getElem?_toArray,List.getElem?_cons_zero,je,Sem.run_bind,run_underlying h1,Result.andThen_ok,yeg h2,hu2,Sem.run_pure]
  split
  .rename_i hd
   rw [hd] at h8
   simp [intB] at h8
  .cases B with
   | none=>
     simp only [Sem.run_pure,Result.ok.injEq,true_and] at hst
     subst hst
     simp [hl,hf,hroom]
   | some a=>
     simp only at hst
     simp [hl,hf,hroom,hst]
theorem yve{t t2 ty:TypeId}{es:Nat}(hT:yacn P t t2 es){B:Option Addr}{n c m:Nat}{X:Value}{olds news:List Value}(hl:∀ w',(Builtin.lenOf X).run P w' = .ok m w')
    (ho:∀ w',w'.heap=w.heap->(Builtin.firstCells es n (.slice B n c)).run P w' = .ok olds.toArray w') (hf:∀ w',w'.heap=w.heap->(Builtin.firstCells es m X).run P w' = .ok news.toArray w')
    (hol:olds.length=n * es) (hnl:news.length=m * es) (hg:c < n + m) (hb:n + m<=yno) :
    ∃ cap D e,n + m<=cap/\D.length=(cap - (n + m)) * es /\
      (Builtin.append_ #[t,t2] ty #[.slice B n c,X]).run P w = .ok (.slice (some ⟨w.heap.size,0,none⟩) (n + m) cap) (yir { w with drawn:=w.drawn + 1 } (.cells (olds++news++D).toArray e)):=by
  obtain ⟨e,xe,x2,z,h1,h2,h3,h4,h5,h6,h7,h8,rfl⟩:=hT.ex
  have hu2:=ycc h3
  obtain ⟨_,i,hi1,hi2,hi3,hi4⟩:=ygh h2
  obtain ⟨zv,hz1,hz2⟩:=ybtq h4
  have hn:¬ (n + m<=c):=by omega
  have hlim:n + m<=549755813888:=hb
  have h63':¬ (9223372036854775807 < ((n:Int) + (m:Int))):=by omega
  have hfit:=growslice_fits (need:=n + m) (old:=c) (bytes:=i.bytes) hg (by
    have:(n + m) * i.bytes<=549755813888 * 256:=Nat.mul_le_mul hlim (by rw [hi3]; exact h6)
    omega)
  have h48':¬ (281474976710656 < Builtin.nextslicecap (n + m) c * i.bytes):=by omega
  have hq:Question.forced (.appendCap (n + m) c e) = false:=rfl
  refine ⟨grownCap w (n + m) c e,(Builtin.zeroCells zv.cells (grownCap w (n + m) c e - (n + m))).toList,e,grownCap_ge w (n + m) c e,?_,?_⟩
  .rw [Array.length_toList,size_zeroCells,hz2,h7]
  .have ho':=ho w.drew rfl
   have hf':=hf w.drew rfl
   simp only [Builtin.append_,List.getElem?_toArray,List.getElem?_cons_zero,je,Sem.run_bind,run_underlying h1,Result.andThen_ok,yeg h2,hu2,Sem.run_pure]
   split
   .rename_i hd
    rw [hd] at h8
    simp [intB] at h8
   .simp [hl,typeInfo,zeroValue,hi1,hi4,hz1,hn,h63',h48',Question.forced,ho',hf',newRow,grownCap]
    have hA:(olds.toArray++(news.toArray++Builtin.zeroCells zv.cells ((Question.appendCap (n + m) c e).cut (w.tape w.drawn (Question.appendCap (n + m) c e)) - (n + m)))) = (olds++(news++(Builtin.zeroCells zv.cells ((Question.appendCap (n + m) c e).cut (w.tape w.drawn (Question.appendCap (n + m) c e)) - (n + m))).toList)).toArray:=by
      apply Array.ext'; simp
    rw [hA]
    rfl
end
section
variable {P:Program} {w:World} {A:Nat->Nat->Prop} {U:Nat->Nat->Prop} {O:Rho}
theorem yxu{es k:Nat}{rows:List (List AV)}{C:List Value}(h:ARs w U es rows C)(hk:rows.length * es<=k):ARs w U es rows (C.take k):=by
  refine yni fun i r hi=>?_
  obtain ⟨g1,g2,g3⟩:=yid h hi
  have hlt:i < rows.length:=by
    rcases qz i rows.length with hl | hl
    .exact hl
    .rw [qm hl] at hi; cases hi
  have h1:(i + 1) * es<=rows.length * es:=qx _ hlt
  have:((C.take k).drop (i * es)).take es=(C.drop (i * es)).take es:=by
    rw [List.drop_take,List.take_take]
    congr 1
    rw [we] at h1
    omega
  rw [this]
  exact ⟨g1,by rw [qp]; omega,g3⟩
theorem ydt.sub{s s1 s':St}{v:AV}{x:Value}{w':World}(hnx:s1.nx=s.nx)(he:s1.env=s.env)(hl:s1.loc=s.loc)(h:∀ b o,Wr O s1.H b o->Wr O s.H b o)(hp:ydt A O s1 w v s' x w'):ydt A O s w v s' x w':=by
  obtain ⟨h1,h2,Z,h3,h4,h5,h6⟩:=hp
  exact ⟨h1.trans he,h2.trans hl,Z,h3,h4,by rw [← hnx]; exact h5,(yhj h).trans h6⟩
theorem yaqh{H1 H':yr}{nx id b es:Nat}{ob:Ob}(hr:Rep A O H1 nx w)(hid:lk H1 id=some ob)(hρ:O id=some (b,es))(hH:∀ k,lk H' k=if k=nx then some ob else if k=id then none else lk H1 k)(hnb:∀ cells,ob≠.box cells) :
    Rep A (yjm O nx (b,es)) H' (nx + 1) w/\∀ b' o,Wr (yjm O nx (b,es)) H' b' o->Wr O H1 b' o:=by
  have hw:∀ b' o,Wr (yjm O nx (b,es)) H' b' o->Wr O H1 b' o:=by
    rintro b' o ⟨i,es',o',g1,g2,g3⟩
    rw [hH] at g1
    by_cases hi:i=nx
    .subst hi
     rw [qe rfl] at g1
     obtain rfl:=qd g1
     rw [yic] at g2
     simp only [qa,qi] at g2
     obtain ⟨rfl,rfl⟩:=g2
     exact ⟨id,es,ob,hid,hρ,g3⟩
    .rw [qc hi] at g1
     rw [ygm hi] at g2
     split at g1
     .cases g1
     .exact ⟨i,es',o',g1,g2,g3⟩
  have old:∀ k o x,lk H' k=some o->yjm O nx (b,es) k=some x->∃ k',lk H1 k' = some o/\O k' = some x/\((k=nx/\k' = id)\/(k≠nx/\k≠id/\k' = k)):=by
    intro k o x g1 g2
    rw [hH] at g1
    by_cases hi:k=nx
    .subst hi
     rw [qe rfl] at g1
     rw [yic] at g2
     exact ⟨id,by rw [hid]; exact g1,by rw [hρ]; exact g2,.inl ⟨rfl,rfl⟩⟩
    .rw [qc hi] at g1
     rw [ygm hi] at g2
     split at g1
     .cases g1
     .rename_i hne
      exact ⟨k,g1,g2,.inr ⟨hi,hne,rfl⟩⟩
  refine ⟨?_,hw⟩
  exact
    { ob:=fun i o b' es' g1 g2=>by
       obtain ⟨k',h1,h2,_⟩:=old i o _ g1 g2
       exact ygd (ydo.less fun b o hu=>hu.imp_right (hw b o)) (hr.ext _) rfl (hr.ob k' o b' es' h1 h2)
      inj:=fun i j oi oj b' ei ej g1 g2 g3 g4=>by
        obtain ⟨i',h1,h2,h3⟩:=old i oi _ g1 g3
        obtain ⟨j',h4,h5,h6⟩:=old j oj _ g2 g4
        have:=hr.inj i' j' oi oj b' ei ej h1 h4 h2 h5
        rcases h3 with ⟨rfl,rfl⟩ | ⟨a1,a2,rfl⟩ <;> rcases h6 with ⟨rfl,rfl⟩ | ⟨a3,a4,rfl⟩
        .rfl
        .exact absurd this.symm a4
        .exact absurd this a2
        .exact this
      ltH:=fun i o g1=>by
        rw [hH] at g1
        by_cases hi:i=nx
        .omega
        .rw [qc hi] at g1
         split at g1
         .cases g1
         .have:=hr.ltH i o g1; omega
      ltR:=fun i x g1=>by
        by_cases hi:i=nx
        .omega
        .rw [ygm hi] at g1
         have:=hr.ltR i x g1; omega
      ltA:=hr.ltA
      apart:=fun i o b' es' off g1 g2=>by
        obtain ⟨k',h1,h2,_⟩:=old i o _ g1 g2
        exact hr.apart k' o b' es' off h1 h2 }
theorem yabp{s:St}(hr:Rep A O s.H s.nx w){es:Nat}{rows new:List (List AV)}(hz:0 < es){olds news D:List Value}{e:TypeId}{cap:Nat}(h1:ARs w (UU A O s.H) es rows olds)(h2:ARs w (UU A O s.H) es new news)
    (hol:olds.length=rows.length * es) (hnl:news.length=new.length * es) (hcap:rows.length + new.length<=cap) (hD:D.length=(cap - (rows.length + new.length)) * es) (leak:Nat) :
    ydt A O s w (.own es s.nx 0 (rows.length + new.length) false) (s.add (.arr es (rows++new) leak)) (.slice (some ⟨w.heap.size,0,none⟩) (rows.length + new.length) cap) (yir { w with drawn:=w.drawn + 1 } (.cells (olds++news++D).toArray e)):=by
  have hs:=yjs.drawn w (w.drawn + 1)
  have hA:ARs { w with drawn:=w.drawn + 1 } (UU A O s.H) es (rows++new) (olds++news++D).toArray.toList:=by
    rw [List.toList_toArray]
    exact yhu (hs.stay _) (yawy (yly h1 hol h2))
  have:=yvi (A:=A) (fr:=(0,0)) (e:=e) (hs.rep hr) hz hA (ywi _) (cap:=cap) (ex:=false) (by
    simp only [List.size_toArray,wk,hol,hnl,hD,← jo]
    apply qx
    omega) (by simpa using hcap) (by simp) leak
  rw [wk] at this
  exact ydt.pre hs this
theorem ybba{es id off len:Nat}{ex:Bool}{H:yr}{rows:List (List AV)}{leak es':Nat}(hid:lk H id=some (.arr es' rows leak))(hle:off + len<=rows.length):ydc es H (.own es id off len ex) = some ((rows.drop off).take len):=by
  simp [ydc,yei,hid,hle]
theorem yvp{s s':St}(hr:Rep A O s.H s.nx w){t t2 ty:TypeId}{es:Nat}(hT:yacn P t t2 es){B:Option Addr}{x v:AV}{X:Value}{new:List (List AV)}(hx:VR w (UU A O s.H) O x X)(hn:ydc es s.H x=some new)(h:ycu s es new=some (v,s')) :
    ∃ z w',(Builtin.append_ #[t,t2] ty #[.slice B 0 0,X]).run P w = .ok z w'/\ydt A O s w v s' z w':=by
  obtain ⟨news,k1,k2,k3,k4⟩:=ynu (P:=P) hr hx hn
  unfold ycu at h
  split at h
  .rename_i hlim
   simp only [qa,qi] at h
   obtain ⟨rfl,rfl⟩:=h
   have hz:0 < es:=by obtain ⟨e,xe,x2,z,_,_,_,_,h5,_,_,_,rfl⟩:=hT.ex; exact h5
   have hfull:∀ w',w'.heap=w.heap->(Builtin.firstCells es new.length X).run P w' = .ok news.toArray w':=by
     intro w' hw
     have:=k4 w' hw new.length (qk _)
     rwa [wm (by omega)] at this
   rcases jf new.length with h0 | h0
   .have hnil:new = []:=wg h0
    subst hnil
    have hnews:news = []:=wg (by simpa using k1)
    subst hnews
    refine ⟨_,_,yvf (B:=B) (n:=0) (c:=0) (w':=w) hT k3 (hfull w rfl) (by simp) ?_,?_⟩
    .cases B <;> rfl
    .exact ywq hr es B 0
   .have hempty:∀ w',w'.heap=w.heap->(Builtin.firstCells es 0 (.slice B 0 0)).run P w' = .ok ([]:List Value).toArray w':=by
      intro w' _
      cases B with
      | none=>simp [run_firstCells_none]
      | some a=>simp [Builtin.firstCells,loadCells,loadCellsFrom]
    obtain ⟨cap,D,e,g1,g2,g3⟩:=yve (ty:=ty) hT (B:=B) (n:=0) (c:=0) k3 hempty hfull (by simp) k1 (by omega) (by omega)
    have:=yabp (D:=D) (e:=e) (cap:=cap) hr (rows:=[]) (new:=new) hz (olds:=[]) (by simp [ARs]) k2 (by simp) k1 (by simpa using g1) (by simpa using g2) 0
    simp only [List.length_nil,Nat.zero_add,List.nil_append] at this g3
    exact ⟨_,_,g3,this⟩
  .cases h
theorem yaqy{s s':St}(hr:Rep A O s.H s.nx w){t t2 ty:TypeId}{es:Nat}(hT:yacn P t t2 es){B:Option Addr}{n c:Nat}{y x v:AV}{X:Value}{rows new:List (List AV)}(hy:VR w (UU A O s.H) O y (.slice B n c))(hr1:ydc es s.H y=some rows)
    (hx:VR w (UU A O s.H) O x X) (hn:ydc es s.H x=some new) (h0:0 < new.length) (hc:c=n) (h:ycu s es (rows++new) = some (v,s')) :
    ∃ z w',(Builtin.append_ #[t,t2] ty #[.slice B n c,X]).run P w = .ok z w'/\ydt A O s w v s' z w':=by
  obtain ⟨olds,j1,j2,j3,j4⟩:=ynu (P:=P) hr hy hr1
  obtain ⟨news,k1,k2,k3,k4⟩:=ynu (P:=P) hr hx hn
  have hnl:n=rows.length:=by
    have:=j3 w
    simp only [Builtin.lenOf,Sem.run_pure,Result.ok.injEq,and_true] at this
    exact this
  subst hnl
  subst hc
  unfold ycu at h
  split at h
  .rename_i hlim
   simp only [qa,qi] at h
   obtain ⟨rfl,rfl⟩:=h
   rw [wk] at hlim ⊢
   have hz:0 < es:=by obtain ⟨e,xe,x2,z,_,_,_,_,h5,_,_,_,rfl⟩:=hT.ex; exact h5
   have hfull:∀ w',w'.heap=w.heap->(Builtin.firstCells es new.length X).run P w' = .ok news.toArray w':=by
     intro w' hw
     have:=k4 w' hw new.length (qk _)
     rwa [wm (by omega)] at this
   have hfull2:∀ w',w'.heap=w.heap->(Builtin.firstCells es rows.length (.slice B rows.length rows.length)).run P w' = .ok olds.toArray w':=by
     intro w' hw
     have:=j4 w' hw rows.length (qk _)
     rwa [wm (by omega)] at this
   obtain ⟨cap,D,e,g1,g2,g3⟩:=yve (ty:=ty) hT (B:=B) (n:=rows.length) (c:=rows.length) k3 hfull2 hfull j1 k1 (by omega) (by omega)
   exact ⟨_,_,g3,yabp hr hz j2 k2 j1 k1 g1 g2 0⟩
  .cases h
theorem yaqb{es:Nat}{rows:List (List AV)}{C:List Value}(h:ARs w U es rows C)(n:Nat):ARs w U es (rows.take n) C:=
  yni fun i r hi=>by
   rw [qn] at hi
   split at hi
   .exact yid h hi
   .cases hi
theorem ycld{s s':St}(hr:Rep A O s.H s.nx w){t t2 ty:TypeId}{es:Nat}(hT:yacn P t t2 es){y x v:AV}{Y X:Value}(hy:VR w (UU A O s.H) O y Y)(hx:VR w (UU A O s.H) O x X)(h:yio es s y x=some (v,s')) :
    ∃ z w',(Builtin.append_ #[t,t2] ty #[Y,X]).run P w = .ok z w'/\ydt A O s w v s' z w':=by
  unfold yio at h
  split at h
  .rename_i new hn
   split at h
   .simp only [VR] at hy
    subst hy
    exact yvp hr hT hx hn h
   .rename_i es' rows ex
    split at h
    .rename_i hc
     obtain ⟨hfit,rfl⟩:=hc
     have hy':=hy
     simp only [VR] at hy
     obtain ⟨B,c,rfl,g1,g2,g3⟩:=hy
     have hcn:=g2 trivial
     subst hcn
     split at h
     .rename_i hz
      rw [hz]
      exact yvp hr hT hx hn h
     .split at h
      .rename_i h0
       exact yaqy hr hT hy' (by simp [ydc,yei,hfit]) hx hn h0 rfl h
      .cases h
    .cases h
   .rename_i es' id off len ex
    split at h
    .rename_i hes
     subst hes
     split at h
     .rename_i es2 rows leak hid
      have hy':=hy
      simp only [VR] at hy
      obtain ⟨B,c,rfl,g1,g2,g3⟩:=hy
      split at h
      .rename_i hex
       subst hex
       have hcn:=g2 rfl
       subst hcn
       split at h
       .rename_i hz
        subst hz
        exact yvp hr hT hx hn h
       .split at h
        .rename_i h0
         exact yaqy hr hT hy' (ybba hid h0.2) hx hn h0.1 rfl h
        .cases h
      .split at h
       .rename_i hc
        obtain ⟨rfl,hle,hleak,hlim⟩:=hc
        simp only [qa,qi] at h
        obtain ⟨rfl,rfl⟩:=h
        obtain ⟨news,k1,k2,k3,k4⟩:=ynu (P:=P) hr hx hn
        have hz:0 < es':=by obtain ⟨e,xe,x2,z,_,_,_,_,h5,_,_,_,rfl⟩:=hT.ex; exact h5
        have hfull:∀ w',w'.heap=w.heap->(Builtin.firstCells es' new.length X).run P w' = .ok news.toArray w':=by
          intro w' hw
          have:=k4 w' hw new.length (qk _)
          rwa [wm (by omega)] at this
        have hsub:∀ k o,lk (rmv s.H id) k=some o->lk s.H k=some o:=by
          intro k o hk
          rw [yjl] at hk
          split at hk
          .cases hk
          .exact hk
        have hr':Rep A O (s.setH (rmv s.H id)).H (s.setH (rmv s.H id)).nx w:=ynx hr hsub
        have hwsub:∀ b o,Wr O (s.setH (rmv s.H id)).H b o->Wr O s.H b o:=fun b o=>ymr hsub
        have hU:ydo w (UU A O s.H) w (UU A O (s.setH (rmv s.H id)).H):=ydo.less fun b o hu=>hu.imp_right (hwsub b o)
        obtain ⟨olds,j1,j2,j3,j4⟩:=ynu (P:=P) hr hy' (ybba hid (by omega))
        have hrows:(rows.drop 0).take len=rows.take len:=by simp
        have hlen:(rows.take len).length=len:=by rw [qp]; omega
        rw [hrows] at j1 j2 j3 j4
        rw [hlen] at j1 j3 j4
        have hfull2:∀ w',w'.heap=w.heap->(Builtin.firstCells es' len (.slice B len c)).run P w' = .ok olds.toArray w':=by
          intro w' hw
          have:=j4 w' hw len (qk _)
          rwa [wm (by omega)] at this
        rcases qz c (len + new.length) with hg | hg
        .obtain ⟨cap,D,e,q1,q2,q3⟩:=yve (ty:=ty) hT (B:=B) (n:=len) (c:=c) k3 hfull2 hfull j1 k1 hg hlim
         have hpg:=yabp hr' hz (yhu hU j2) (yhu hU k2) (by rw [hlen]; exact j1) k1 (by rw [hlen]; exact q1) (by rw [hlen]; exact q2) leak (e:=e)
         rw [hlen] at hpg
         exact ⟨_,_,q3,ydt.sub (s1:=s.setH (rmv s.H id)) rfl rfl rfl hwsub hpg⟩
        .rcases g3 with ⟨h0,rfl⟩ | ⟨b,C,e,fr,g4,rfl,g5,g6⟩
         .have hn0:new = []:=wg (by omega)
          subst hn0
          subst h0
          have hnews:news = []:=wg (by simpa using k1)
          subst hnews
          refine ⟨_,_,yvf (B:=B) (n:=0) (c:=0) (w':=w) hT k3 (hfull w rfl) (by simp) ?_,?_⟩
          .cases B <;> rfl
          .simp only [List.take_zero,jh,List.length_nil,ka]
           exact ydt.sub (s1:=s.setH (rmv s.H id)) rfl rfl rfl hwsub (ywq hr' es' B leak)
         .obtain ⟨q1,q2,C',e',fr',q3,q4,q5⟩:=hr.ob id _ b es' hid g4
          rw [g5] at q3
          simp only [qa,Obj.cells.injEq] at q3
          obtain ⟨rfl,rfl,rfl⟩:=q3
          simp only [Nat.zero_add,Nat.zero_mul] at g6 ⊢
          have hfit:(len + new.length) * es'<=C.size:=ww (qx _ hg) g6
          rw [jo] at hfit
          have hone:=yalh k2 k1
          have hst:=run_storeCells_cells (P:=P) b (len * es') news 0 w (fun j hj=>by
           rw [yfa g5]; simp; omega) (fun j hj=>yle g5 q4 (by omega)) (fun v hv=>ylh (hone v hv))
          simp only [ka] at hst
          refine ⟨_,_,yvf (B:=some ⟨b,0,none⟩) (n:=len) (c:=c) (w':=w.setCells b (len * es') news) hT k3 (hfull w rfl) hg (by simpa [ynb] using hst),rfl,rfl,?_⟩
          obtain ⟨u1,u2,u3,u4,u5,u6⟩:=yii b e fr news (len * es') w C g5
          have hwrite:∀ o,¬ yjc es' o (.arr es2 rows leak)->(yjy C (len * es') news)[o]? = C[o]?:=by
            intro o ho
            rw [yhi,qc]
            intro hh
            apply ho
            simp only [yjc]
            have:leak * es'<=len * es':=qx _ hleak
            omega
          have hH1:∀ k,lk ((id,Ob.arr es' (rows.take len++new) leak) :: rmv s.H id) k=if k=id then some (.arr es' (rows.take len++new) leak) else lk s.H k:=by
            intro k
            rw [ybx,yjl]
            by_cases hk:id=k
            .subst hk; simp
            .have:¬ k=id:=fun e=>hk e.symm
             simp [hk,this]
          obtain ⟨hfr,hrep⟩:=ymd (H':=(id,Ob.arr es' (rows.take len++new) leak) :: rmv s.H id) (ob':=.arr es' (rows.take len++new) leak) hr hid g4 g5 u1 u2 u3 u4 u5 u6 (yef _ _ _) hwrite hH1 (fun _ hh=>hh)
          have hlist:(yjy C (len * es') news).toList=C.toList.take (len * es')++news++C.toList.drop (len * es' + news.length):=by
            apply jx
            intro i
            have hcl:C.toList.length=C.size:=by simp
            rw [qu,yhi]
            by_cases h1:i < len * es'
            .rw [qc (by omega),jr,jl (by rw [qp]; omega),qn,qe h1,qu]
            .by_cases h2:i < len * es' + news.length
             .rw [qe (by omega),jr,jc (by rw [qp]; omega),jl (by rw [qp]; omega),qp,wi (by omega)]
             .rw [qc (by omega),jc (by rw [wk,qp]; omega),qo,wk,qp,wi (by omega),qu]
              congr 1; omega
          have hrep1:=hrep ⟨rfl,hz,_,e,fr,u1,by rw [yef]; exact q4,by
            rw [hlist]
            refine yawy (yly (yxu (yaqb (yhu hfr.stay q5) len) (by rw [hlen]; exact qk _)) ?_ (yhu hfr.stay k2))
            rw [hlen]
            rw [qp]
            have hcl:C.toList.length=C.size:=by simp
            omega⟩
          obtain ⟨hrep2,hw2⟩:=yaqh (ob:=Ob.arr es' (rows.take len++new) leak) (H':=(s.nx,Ob.arr es' (rows.take len++new) leak) :: rmv s.H id) hrep1 (by simp) g4 (fun k=>by
            by_cases hk:k=s.nx
            .simp [hk]
            .have e1:¬ s.nx=k:=fun e=>hk e.symm
             by_cases hk2:k=id
             .subst hk2; simp [yjl,hk,e1]
             .have e2:¬ id=k:=fun e=>hk2 e.symm
              simp [yjl,hk,e1,hk2,e2]) (by simp)
          refine ⟨yjm O s.nx (b,es'),hrep2,?_,hr.ext2 _,hfr.trans ?_⟩
          .simp only [VR]
           refine ⟨_,c,rfl,hg,by simp,.inr ⟨b,_,e,fr,yic _ _ _,by simp,u1,by rw [yef]; simpa using g6⟩⟩
          .exact
             { size:=qk _
               os:=rfl
               tape:=rfl
               output:=rfl
               cells:=fun b' C e fr hb=>⟨C,hb,rfl,fun _ _=>rfl⟩
               other:=fun b' o hb _=>hb
               shrink:=fun b' o _ hw=>hw2 b' o hw }
       .cases h
     .cases h
    .cases h
   .cases h
  .cases h
end
structure ElTy (P:Program) (t:TypeId) (es:Nat) (z:List AV):Prop where
  ex:∃ e xe,P.underlying t=some (.slice e)/\ybt P e=some xe/\(∃ z0,zeroCells xe=some z0/\z=ydn [] z0)/\0 < xe.size/\z.length=xe.size/\es=xe.size/\xe.bytes<=256
section
variable {P:Program} {w:World} {A:Nat->Nat->Prop} {U:Nat->Nat->Prop} {O:Rho}
def ygp(zs:Array Value)(n:Nat):Array Value:=(Array.range n).map (zs[·% zs.size]!)
theorem yack(zs:Array Value)(n:Nat):(ygp zs n).toList=(List.range n).map (zs[·% zs.size]!):=by simp [ygp]
theorem yaai{es n c:Nat}{z:List AV}{zs:Array Value}(hz:0 < es)(hl:z.length=es)(hzs:VRs w U ych z zs.toList)(hone:∀ x∈zs.toList,yib x=true)(hn:n<=c):ARs w U es (List.replicate n z) (ygp zs (c * es)).toList:=by
  have hsz:zs.size=es:=by have:=ycd hzs; simp at this; omega
  refine yni fun i r hi=>?_
  rw [kh] at hi
  split at hi
  .rename_i hlt
   obtain rfl:=qd hi
   have hle:(i + 1) * es<=c * es:=qx _ (by omega)
   have heq:((ygp zs (c * es)).toList.drop (i * es)).take es=zs.toList:=by
     rw [yack]
     apply jx
     intro j
     rw [qn]
     split
     .rename_i hj
      rw [qo,jw,List.getElem?_range (by rw [we] at hle; omega)]
      simp only [kb,hsz]
      rw [show (i * es + j) % es=j by rw [Nat.mul_comm,Nat.mul_add_mod]; exact Nat.mod_eq_of_lt hj]
      rw [qj (by simpa [hsz] using hj)]
      simp [hsz,hj]
     .rename_i hj
      rw [qm (by simp [hsz]; omega)]
   rw [heq]
   refine ⟨hl,?_,hzs,hone⟩
   rw [yack]; simpa using hle
  .cases hi
theorem yclr{s s':St}(hr:Rep A O s.H s.nx w){t:TypeId}{es:Nat}{z:List AV}(hT:ElTy P t es z){l m v:AV}{L M:Value}(hl:VR w U O l L)(hm:VR w U O m M)(h:yts es z s l m=some (v,s')) :
    ∃ x w',(Instr.makeSlice t L M).run P w = .ok x w'/\ydt A O s w v s' x w':=by
  unfold yts at h
  split at h
  .rename_i n c
   split at h
   .rename_i hc
    obtain ⟨h0,h1,h2⟩:=hc
    simp only [qa,qi] at h
    obtain ⟨rfl,rfl⟩:=h
    simp only [VR] at hl hm
    subst hl; subst hm
    obtain ⟨e,xe,g1,g2,g3,g4,g5,rfl,g6⟩:=hT.ex
    obtain ⟨_,i,hi1,hi2,hi3,hi4⟩:=ygh g2
    obtain ⟨z0,g3,rfl⟩:=g3
    obtain ⟨zv,hz1,hz2,hz3⟩:=yra g3
    have hlim:c<=549755813888:=h2
    have hb:(i.bytes:Int) * c<=281474976710656:=by
      have h4:(i.bytes:Int)<=256:=by rw [hi3]; omega
      have h3:(i.bytes:Int) * c<=256 * c:=Int.mul_le_mul_of_nonneg_right h4 (by omega)
      omega
    have hvz:VRs w (UU A O s.H) ych (ydn [] z0) zv.cells.toList:=hz3
    have hA:=yaai (w:=w) (U:=UU A O s.H) (n:=n.toNat) (c:=c.toNat) g4 g5 hvz (ylq hz2 hvz) (by omega)
    have hrun:(Instr.makeSlice t (.int .i64 n) (.int .i64 c)).run P w = .ok (.slice (some ⟨w.heap.size,0,none⟩) n.toNat c.toNat) (yir w (.cells (ygp zv.cells (c.toNat * xe.size)) e)):=by
      rw [run_make w t e i zv g1 hi1 (by rw [hi4]; exact hz1) .i64 .i64 n c h0 h1 hb (by omega),hi2]
      rfl
    refine ⟨_,_,hrun,?_⟩
    have hsz:(ygp zv.cells (c.toNat * xe.size)).size=c.toNat * xe.size:=by simp [ygp]
    have:=yvi (A:=A) (fr:=(0,0)) (e:=e) hr g4 hA (ywi _) (cap:=c.toNat) (ex:=n == c) (by rw [hsz]; exact qk _) (by simp; omega) (by simp; intro hh; omega) 0
    simpa using this
   .cases h
  .cases h
end
def VRq(w:World)(U:Nat->Nat->Prop)(O:Rho):List (Nat × AV)->List (Nat × Value)->Prop
  | [],ps=>ps = []
  | (i,a) :: r,ps=>∃ x q,ps=(i,x) :: q/\VR w U O a x/\VRq w U O r q
theorem yrn:∀ (ps:List (Nat × AV)) (H:yr),yby H (yfl H ps)
  | [],H=>yby.refl _
  | (i,v) :: r,H=>(ykr v H).trans (yrn r _)
section
variable {P:Program} {w:World} {A:Nat->Nat->Prop} {U:Nat->Nat->Prop} {O:Rho}
theorem yaxg{s:St}{a:Act}(hv:ynh w U O s a):∀ {pl:List (Nat × Operand)} {ps:List (Nat × Opd)},ylu pl=some ps->VRq w U O (s.evp ps) (pl.map fun p=>(p.1,a.eval p.2))
  | [],ps,h=>by simp only [ylu,qa] at h; subst h; simp [St.evp,VRq]
  | (i,x) :: pl,ps,h=>by
    simp only [ylu] at h
    split at h
    .rename_i y q e1 e2
     simp only [qa] at h
     subst h
     simp only [St.evp,wr,VRq]
     exact ⟨_,_,rfl,ycv hv e1,yaxg hv e2⟩
    .cases h
theorem yrb(xs:Array Value)(off:Nat)(ys:List Value):(ykn xs off ys).toList.length=xs.size:=by
  simp [ykn,yabu]
theorem ycdf{es i:Nat}{rows:List (List AV)}{vs:List AV}{xs:Array Value}{ys:List Value}(hA:ARs w U es rows xs.toList)(hv:VRs w U ych vs ys)(hone:∀ y∈ys,yib y=true)(hl:vs.length=es)(hi:i < rows.length) :
    ARs w U es (rows.set i vs) (ykn xs (i * es) ys).toList:=by
  have hly:=ycd hv
  have hcl:xs.toList.length=xs.size:=by simp
  have hget:∀ k,(ykn xs (i * es) ys).toList[k]? = if i * es<=k/\k < i * es + ys.length/\k < xs.size then ys[k - i * es]? else xs.toList[k]?:=by
    intro k
    have:=yaey ys 0 (i * es) xs k
    simp only [ka] at this
    rw [qu,ykn,this]
    split
    .rfl
    .rw [qu]
  refine yni fun j r hj=>?_
  rw [yrb]
  by_cases hij:i=j
  .subst hij
   rw [wu hi] at hj
   obtain rfl:=qd hj
   obtain ⟨g1,g2,g3,g4⟩:=yid hA (qj hi)
   rw [hcl,we] at g2
   have heq:((ykn xs (i * es) ys).toList.drop (i * es)).take es=ys:=by
     apply jx
     intro q
     rw [qn]
     split
     .rename_i hq
      rw [qo,hget,qe (by omega)]
      congr 1; omega
     .rename_i hq
      rw [qm (by omega)]
   rw [heq]
   exact ⟨hl,by rw [we]; omega,hv,hone⟩
  .rw [ja hij] at hj
   obtain ⟨g1,g2,g3⟩:=yid hA hj
   have heq:((ykn xs (i * es) ys).toList.drop (j * es)).take es=(xs.toList.drop (j * es)).take es:=by
     apply jx
     intro q
     rw [qn,qn]
     split
     .rename_i hq
      rw [qo,qo,hget,qc]
      intro hh
      rcases Nat.lt_or_gt_of_ne hij with hlt | hlt
      .have:(i + 1) * es<=j * es:=qx _ hlt
       rw [we] at this; omega
      .have:(j + 1) * es<=i * es:=qx _ hlt
       rw [we] at this; omega
     .rfl
   rw [heq]
   exact ⟨g1,by rw [hcl] at g2; exact g2,g3⟩
theorem yaaf{H:yr}{nx:Nat}(hr:Rep A O H nx w){es:Nat}:∀ {ps:List (Nat × AV)} {qs:List (Nat × Value)} {rows r:List (List AV)} {xs:Array Value} (H1 H':yr),yby H H1->yby (yfl H1 ps) H'->VRq w (UU A O H) O ps qs ->
    ARs w (UU A O H') es rows xs.toList->yfp es H rows ps=some r->∃ ys:Array Value,Instr.fill (fun i=>some (i * es,es)) xs qs=some ys/\ys.size=xs.size/\r.length=rows.length/\ARs w (UU A O H') es r ys.toList
  | [],qs,rows,r,xs,H1,H',hl1,hl,hq,hA,h=>by
    simp only [VRq] at hq
    subst hq
    simp only [yfp,qa] at h
    subst h
    exact ⟨xs,rfl,rfl,rfl,hA⟩
  | (i,v) :: ps,qs,rows,r,xs,H1,H',hl1,hl,hq,hA,h=>by
    simp only [VRq] at hq
    obtain ⟨x,q,rfl,hv,hq⟩:=hq
    simp only [yfp] at h
    split at h
    .rename_i vs hvs
     split at h
     .rename_i hc
      obtain ⟨c1,c2,c3,c4⟩:=hc
      have hV:=ywx hr v H1 hl1 H' ((yrn ps _).trans hl) x hv
      have hX:=ypn hvs hV
      have hlx:=ycd hX
      have hxs:x.cells.toList.length=x.cells.size:=by simp
      have hsz:=yacl hA
      have hcl:xs.toList.length=xs.size:=by simp
      have h5:(i + 1) * es<=rows.length * es:=qx _ c2
      rw [we] at h5
      obtain ⟨ys,g1,g2,g3,g4⟩:=yaaf hr (ybv H1 v) H' (hl1.trans (ykr v H1)) hl hq (ycdf hA hX (ylq c4 hX) c1 c2) h
      refine ⟨ys,?_,by rw [g2]; simpa using yrb xs (i * es) x.cells.toList,by rw [g3]; simp,g4⟩
      have c5:x.cells.size=es:=by omega
      have c6:¬ (i * es + es > xs.size):=by omega
      simp only [Instr.fill,c5]
      rw [qc (by simp [c6])]
      rw [← g1]
      congr 1
      simp only [ykn,← Array.foldl_toList,Array.toList_zipIdx]
     .cases h
    .cases h
theorem ybau{s s':St}(hr:Rep A O s.H s.nx w){t:TypeId}{es:Nat}{z:List AV}(hT:ElTy P t es z){len:Nat}(hlen:len * es<=16777216){ps:List (Nat × AV)}{qs:Array (Nat × Value)}(hq:VRq w (UU A O s.H) O ps qs.toList){v:AV}(h:ysd es z len s ps=some (v,s')) :
    ∃ x w',(Instr.buildSlice t len qs).run P w = .ok x w'/\ydt A O s w v s' x w':=by
  unfold ysd at h
  split at h
  .rename_i rows hrows
   simp only [qa,qi] at h
   obtain ⟨rfl,rfl⟩:=h
   obtain ⟨e,xe,g1,g2,g3,g4,g5,rfl,g6⟩:=hT.ex
   obtain ⟨z0,g3,rfl⟩:=g3
   obtain ⟨zv,hz1,hz2,hz3⟩:=yra g3
   have hl:=yrn ps s.H
   have hvz:VRs w (UU A O (yfl s.H ps)) ych (ydn [] z0) zv.cells.toList:=hz3
   have hA:=yaai (w:=w) (n:=len) (c:=len) g4 g5 hvz (ylq hz2 hvz) (qk _)
   obtain ⟨ys,k1,k2,k3,k4⟩:=yaaf hr s.H _ (yby.refl _) (yby.refl _) hq hA hrows
   have hr1:Rep A O (s.setH (yfl s.H ps)).H (s.setH (yfl s.H ps)).nx w:=yre hr hl
   have hsz:(ygp zv.cells (len * xe.size)).size=len * xe.size:=by simp [ygp]
   have hrl:rows.length=len:=by simpa using k3
   have hrun:(Instr.buildSlice t len qs).run P w = .ok (.slice (some ⟨w.heap.size,0,none⟩) len len) (yir w (.cells ys e)):=by
     have c1:¬ (len * xe.size > 2 ^ 24):=by
       have:(2:Nat) ^ 24=16777216:=by decide
       omega
     by_cases hz:len * xe.size=0
     .have hzz:ygp zv.cells 0 = #[]:=by simp [ygp]
      rw [hz,hzz] at k1
      have hr0:(Array.range 0).map ((#[]:Array Value)[·% 0]!) = #[]:=by simp
      simp only [Instr.buildSlice,Sem.run_bind,run_underlying g1,Result.andThen_ok,yeg g2,Sem.run_ite,qc c1,Sem.run_pure,hz,wl,List.size_toArray,List.length_nil,Array.size_empty]
      simp only [Array.range_zero',Array.map_empty]
      rw [k1]
      simp [newRow]
      rfl
     .simp only [Instr.buildSlice,Sem.run_bind,run_underlying g1,Result.andThen_ok,yeg g2,Sem.run_ite,qc c1,Sem.run_pure,qc hz,ywh g2 hz1]
      have:(Array.range (len * xe.size)).map (zv.cells[·% zv.cells.size]!) = ygp zv.cells (len * xe.size):=rfl
      rw [this,k1]
      simp [newRow]
      rfl
   refine ⟨_,_,hrun,?_⟩
   have:=yvi (A:=A) (s:=s.setH (yfl s.H ps)) (fr:=(0,0)) (e:=e) (C:=ys) hr1 g4 k4 (ywi _) (cap:=len) (ex:=true) (by rw [k2,hsz]; exact qk _) (by omega) (by intro _; omega) 0
   rw [hrl] at this
   exact ydt.sub (s1:=s.setH (yfl s.H ps)) rfl rfl rfl (fun b o=>yoa hl) this
  .cases h
theorem yawn(w:World)(o:Obj)(f:Obj->Obj):(w.heap.push o).modify w.heap.size f=w.heap.push (f o):=by
  apply Array.ext
  .simp
  .intro i h1 h2
   simp only [Array.size_modify,Array.size_push] at h1
   rw [Array.getElem_modify]
   by_cases hi:i=w.heap.size
   .subst hi; simp
   .have:i < w.heap.size:=by omega
    rw [qc (by omega),Array.getElem_push_lt this,Array.getElem_push_lt this]
theorem yclt{s s':St}(hr:Rep A O s.H s.nx w){a b e:TypeId}{xs xd xe:TI}(ha:ybt P a=some xs)(hb:ybt P b=some xd)(hd:xd.desc = .slice e)(he:ybt P e=some xe)(hu:xe.desc = .int .u8){X:Value}{x v:AV}(hx:VR w U O x X)(h:ytt s x=some (v,s')) :
    ∃ z w',(convert a b X).run P w = .ok z w'/\ydt A O s w v s' z w':=by
  unfold ytt at h
  split at h
  .rename_i str
   simp only [VR] at hx
   subst hx
   simp only [qa,qi] at h
   obtain ⟨rfl,rfl⟩:=h
   have h2:=ycc hb w
   have h3:=ycc he w
   rw [hd] at h2
   rw [hu] at h3
   have hlen:(yiv str).length=str.size:=by simp [yiv]
   let cap:=(Question.appendCap str.size 0 e).cut (w.tape w.drawn (.appendCap str.size 0 e))
   have hcap:str.size<=cap:=by simp [cap,Question.cut]
   let C:Array Value:=(str.data.map fun b=>.int .u8 b.toNat)++Array.replicate (cap - str.size) (.int .u8 0)
   have hsz:C.size=cap:=by simp [C]; have:str.data.size=str.size:=rfl; omega
   have hrun:(convert a b (.string str)).run P w = .ok (.slice (some ⟨w.heap.size,0,none⟩) str.size cap) (yir { w with drawn:=w.drawn + 1 } (.cells C e (C.size,C.size + 1))):=by
     have hq:Question.forced (.appendCap str.size 0 e) = false:=rfl
     simp only [convert,Sem.run_bind,ycc ha w,h2,h3,Result.andThen_ok,Conv.stringToBytes,run_choose,hq,qr,wn,newRow,run_newObj,Sem.run_pure,markStringish,run_shape]
     have hsh:World.shape? { w with drawn:=w.drawn + 1,heap:=w.heap.push (.cells C e) } w.heap.size=some (e,C.size):=by
       simp [World.shape?]
     rw [show (Obj.cells ((str.data.map fun b=>Value.int .u8 b.toNat)++Array.replicate ((Question.appendCap str.size 0 e).cut (w.tape w.drawn (.appendCap str.size 0 e)) - str.size) (Value.int .u8 0)) e) = Obj.cells C e from rfl]
     rw [hsh]
     simp only [run_freeze,Result.andThen_ok,World.freeze]
     rw [qc (by decide)]
     simp only [yawn,Sem.run_pure,Result.andThen_ok]
     simp [yir,cap]
   refine ⟨_,_,hrun,?_⟩
   have hs:=yjs.drawn w (w.drawn + 1)
   have hr1:=hs.rep hr
   have hq:=yaam hr1 (yahq (yvn (w:={ w with drawn:=w.drawn + 1 }) (A':=fun _ _=>False) (fun _ _ h=>h.elim)) (.box []) C e (C.size,C.size + 1) 1)
   obtain ⟨hr2,hf2⟩:=hq
   obtain ⟨hr3,hf3⟩:=yxv hr2 (.box [])
   have hb:(yir { w with drawn:=w.drawn + 1 } (.cells C e (C.size,C.size + 1))).heap[w.heap.size]? = some (Obj.cells C e (C.size,C.size + 1)):=by simp [yir]
   refine ⟨rfl,rfl,O,hr3,?_,ygs.more _ _,Fr.trans (hs.fr O s.H) (Fr.trans hf2 hf3)⟩
   refine yww (es:=1) (ex:=false) ?_
   simp only [VR]
   refine ⟨_,cap,by rw [hlen],by rw [hlen]; exact hcap,by simp,.inr ⟨w.heap.size,0,rfl,ywv fun i r hi=>?_⟩⟩
   simp only [yiv,jw,Option.map_eq_some_iff] at hi
   obtain ⟨b,hbi,rfl⟩:=hi
   refine ⟨rfl,?_⟩
   have hlt:i < str.data.toList.length:=by
     rcases qz i str.data.toList.length with hl | hl
     .exact hl
     .rw [qm hl] at hbi; cases hbi
   refine yaaj fun j a hj=>?_
   cases j with
   | succ j=>simp [yxc] at hj
   | zero=>
     simp only [yxc,List.getElem?_cons_zero,qa] at hj
     subst hj
     refine ⟨.int .u8 b.toNat,?_,fun hU=>?_,rfl,by simp [VR]⟩
     .rw [yfa hb]
      simp only [C,Nat.zero_add,Nat.mul_one,ka]
      rw [Array.getElem?_append_left (by simpa using hlt),Array.getElem?_map,← qu,hbi]
      rfl
     .have hU':UU A O s.H w.heap.size (0 + i * 1 + 0):=by
        rcases hU with hU | hU
        .exact .inl hU
        .exact .inr (hf3.shrink _ _ (by simp [yir]) hU)
      exact absurd (yapf hr1 hU') (Nat.lt_irrefl _)
  .cases h
theorem yaau:∀ {rows:List (List AV)} {l:List UInt8} {cs:List Value},bytesOf rows=some l->ARs w U 1 rows cs->cs.length=rows.length * 1->∃ ns:List Int,cs=ns.map (Value.int .u8)/\l=ns.map fun n=>UInt8.ofNat n.toNat
  | [],l,cs,h,hA,hl=>by
    simp only [bytesOf,qa] at h
    subst h
    have:cs = []:=wg (by simpa using hl)
    exact ⟨[],by simp [this],rfl⟩
  | r :: rs,l,cs,h,hA,hl=>by
    unfold bytesOf at h
    split at h
    .rename_i heq
     cases heq
    .rename_i n r' heq
     simp only [List.cons.injEq] at heq
     obtain ⟨rfl,rfl⟩:=heq
     split at h
     .rename_i l' hl'
      simp only [qa] at h
      subst h
      simp only [ARs] at hA
      obtain ⟨_,g2,⟨g3,_⟩,g4⟩:=hA
      cases cs with
      | nil=>simp at g2
      | cons c cs=>
        simp only [List.take_succ_cons,List.take_zero,VRs,VR] at g3
        obtain ⟨x,q,e1,rfl,rfl⟩:=g3
        simp only [List.cons.injEq,and_true] at e1
        subst e1
        obtain ⟨ns,e2,e3⟩:=yaau hl' (by simpa using g4) (by simpa using hl)
        exact ⟨n :: ns,by simp [e2],by simp [e3]⟩
     .cases h
    .cases h
theorem yaeq:∀ (ns:List Int) (s:ByteArray),ns.foldl (fun r n=>r.push (UInt8.ofNat n.toNat)) s = ⟨s.data++(ns.map fun n=>UInt8.ofNat n.toNat).toArray⟩
  | [],s=>by simp
  | n :: ns,s=>by
    rw [List.foldl_cons,yaeq ns]
    simp [ByteArray.push]
theorem ycle{s:St}(hr:Rep A O s.H s.nx w){a b e:TypeId}{xs xd xe:TI}(ha:ybt P a=some xs)(hsd:xs.desc = .slice e)(hb:ybt P b=some xd)(hd:xd.desc = .string)(he:ybt P e=some xe)(hu:xe.desc = .int .u8){X:Value}{x v:AV}(hx:VR w (UU A O s.H) O x X)(h:ytk s.H x=some v) :
    ∃ z,(convert a b X).run P w = .ok z w/\VR w (UU A O s.H) O v z:=by
  unfold ytk at h
  split at h
  .rename_i rows hrows
   split at h
   .rename_i l hl
    simp only [qa] at h
    subst h
    have hsrc:ydc 1 s.H x=some rows:=by
      unfold ydc
      split
      .simp [yei] at hrows
      .exact hrows
    obtain ⟨cs,k1,k2,k3,k4⟩:=ynu (P:=P) hr hx hsrc
    have h1:=(ygh ha).1
    have h2:=(ygh hb).1
    have h3:=(ygh he).1
    rw [hsd] at h1
    rw [hd] at h2
    rw [hu] at h3
    obtain ⟨ns,e1,e2⟩:=yaau hl k2 k1
    have hX:∃ B n c,X = .slice B n c:=by
      cases x <;> simp [yei] at hrows <;> simp only [VR] at hx
      .exact ⟨none,0,0,hx⟩
      .obtain ⟨B,c,rfl,_⟩:=hx; exact ⟨B,_,c,rfl⟩
      .obtain ⟨B,c,rfl,_⟩:=hx; exact ⟨B,_,c,rfl⟩
    obtain ⟨B,n,c,rfl⟩:=hX
    have hn:n=rows.length:=by
      have:=k3 w
      simp only [Builtin.lenOf,Sem.run_pure,Result.ok.injEq,and_true] at this
      exact this
    subst hn
    refine ⟨.string ⟨l.toArray⟩,?_,by simp [VR]⟩
    rw [run_convert_bytes_string w a b e B _ c h1 h3 h2]
    have k5:=k4 w rfl rows.length (qk _)
    rw [wm (by omega)] at k5
    cases B with
    | none=>
      simp only [run_firstCells_none,Result.ok.injEq,and_true] at k5
      have:cs = []:=by simpa using congrArg Array.toList k5.symm
      subst this
      have hn:ns = []:=by simpa using e1.symm
      subst hn
      simp only [List.map_nil] at e2
      subst e2
      simp [Conv.bytesToString]
      rfl
    | some bb=>
      have k6:(loadCells bb rows.length).run P w = .ok (ns.map (Value.int .u8)).toArray w:=by
        rw [← e1]
        simpa [Builtin.firstCells] using k5
      rw [run_bytesToString w bb rows.length c ns k6,yaeq,e2]
      simp
   .cases h
  .cases h
end
theorem ykj:∀ (rows:List (List AV)) (k:Nat) (ns:List (List AV)),k + ns.length<=rows.length->ygw rows k ns=rows.take k++ns++rows.drop (k + ns.length)
  | [],k,ns,h=>by
    have h1:k=0:=by simp at h; omega
    have h2:ns = []:=wg (by rw [List.length_nil] at h; omega)
    subst h1; subst h2; simp [ygw]
  | r :: rs,0,n :: ns,h=>by
    have:=ykj rs 0 ns (by simpa using h)
    simp only [ygw,this,List.take_zero,List.nil_append,Nat.zero_add,jn,ws,List.drop_succ_cons]
  | r :: rs,0,[],h=>by simp [ygw]
  | r :: rs,k + 1,ns,h=>by
    have:=ykj rs k ns (by simp at h; omega)
    simp only [ygw,this,List.take_succ_cons,jn,jr]
    rw [show k + 1 + ns.length=(k + ns.length) + 1 by omega,List.drop_succ_cons]
section
variable {P:Program} {w:World} {A:Nat->Nat->Prop} {U:Nat->Nat->Prop} {O:Rho}
theorem yafi{es:Nat}{rows:List (List AV)}{C:List Value}(h:ARs w U es rows C)(k:Nat):ARs w U es (rows.take k) C:=by
  refine yni fun i r hi=>?_
  rw [qn] at hi
  split at hi
  .exact yid h hi
  .cases hi
theorem yaqa{es:Nat}{rows:List (List AV)}{C:List Value}(h:ARs w U es rows C)(k:Nat):ARs w U es (rows.drop k) (C.drop (k * es)):=by
  refine yni fun i r hi=>?_
  rw [qo] at hi
  obtain ⟨g1,g2,g3⟩:=yid h hi
  have e:k * es + i * es=(k + i) * es:=by rw [jo]
  rw [jp,e]
  refine ⟨g1,?_,g3⟩
  rw [wq]
  rw [we] at g2 ⊢
  omega
theorem yaom(C:Array Value)(o:Nat)(news:List Value)(h:o + news.length<=C.size):(yjy C o news).toList=C.toList.take o++news++C.toList.drop (o + news.length):=by
  apply jx
  intro i
  have hcl:C.toList.length=C.size:=by simp
  rw [qu,yhi]
  by_cases h1:i < o
  .rw [qc (by omega),jr,jl (by rw [qp]; omega),qn,qe h1,qu]
  .by_cases h2:i < o + news.length
   .rw [qe (by omega),jr,jc (by rw [qp]; omega),jl (by rw [qp]; omega),qp,wi (by omega)]
   .rw [qc (by omega),jc (by rw [wk,qp]; omega),qo,wk,qp,wi (by omega),qu]
    congr 1; omega
theorem yanc{t ty e:TypeId}{ts:Array TypeId}{tr:List TypeId}(hts:ts.toList=t :: tr){xe:TI}(h1:P.underlying t=some (.slice e))(h2:ybt P e=some xe){B:Option Addr}{len c m:Nat}{X:Value}{cs:List Value}(hl:∀ w',(Builtin.lenOf X).run P w' = .ok m w')
    (hf:(Builtin.firstCells xe.size (Nat.min m len) X).run P w = .ok cs.toArray w) {w':World} (hst:(match B with | some a=>storeCells a cs | none=>pure ():Sem Unit).run P w = .ok () w') :
    (Builtin.copy_ ts ty #[.slice B len c,X]).run P w = .ok (goInt (Nat.min m len)) w':=by
  have h0:ts[0]? = some t:=by rw [← qu,hts]; rfl
  simp only [Builtin.copy_,h0,List.getElem?_toArray,List.getElem?_cons_zero,je,Sem.run_bind,run_underlying h1,Result.andThen_ok,yeg h2,hl,hf,Sem.run_pure]
  cases B with
  | none=>
    simp only [Sem.run_pure,Result.ok.injEq,true_and] at hst
    subst hst
    simp
  | some a=>
    simp only at hst
    simp [hst]
theorem yclh{s s':St}(hr:Rep A O s.H s.nx w){t ty e:TypeId}{ts:Array TypeId}{tr:List TypeId}(hts:ts.toList=t :: tr){xe:TI}(h1:P.underlying t=some (.slice e))(h2:ybt P e=some xe)(hz:0 < xe.size){y x v:AV}{Y X:Value}(hy:VR w (UU A O s.H) O y Y)(hx:VR w (UU A O s.H) O x X)(h:yoe xe.size s y x=some (v,s')) :
    ∃ z w',(Builtin.copy_ ts ty #[Y,X]).run P w = .ok z w'/\ydt A O s w v s' z w':=by
  unfold yoe at h
  split at h
  .rename_i src es' id off len ex hn
   split at h
   .rename_i hes
    subst hes
    split at h
    .rename_i es2 rows leak hid
     split at h
     .rename_i hc
      obtain ⟨c1,c2⟩:=hc
      split at h
      .rename_i H hup
       simp only [qa,qi] at h
       obtain ⟨rfl,rfl⟩:=h
       obtain ⟨news,k1,k2,k3,k4⟩:=ynu (P:=P) hr hx hn
       simp only [VR] at hy
       obtain ⟨B,c,rfl,g1,g2,g3⟩:=hy
       have hlen:(src.take len).length=Nat.min src.length len:=by rw [qp,Nat.min_comm]
       have hf:=k4 w rfl (Nat.min src.length len) (Nat.min_le_left _ _)
       have hgo:goInt (Nat.min src.length len) = Value.int .i64 ((src.take len).length:Int):=by rw [hlen]; rfl
       rcases g3 with ⟨rfl,rfl⟩ | ⟨b,C,e',fr,g4,rfl,g5,g6⟩
       .have h0:Nat.min src.length 0=0:=Nat.min_eq_right (jb _)
        have hst:(match B with | some a=>storeCells a (news.take (Nat.min src.length 0 * xe.size)) | none=>pure ():Sem Unit).run P w = .ok () w:=by
          rw [h0]
          simp only [Nat.zero_mul,List.take_zero]
          cases B <;> rfl
        refine ⟨_,_,yanc (ty:=ty) hts h1 h2 k3 hf hst,?_⟩
        have hsame:∀ k,lk H k=lk s.H k:=by
          intro k
          rw [yey hup k]
          by_cases hk:k=id
          .subst hk
           rw [qe rfl,hid]
           rw [ykj _ _ _ c2]
           simp
          .rw [qc hk]
        have hsub:∀ k o,lk H k=some o->lk s.H k=some o:=fun k o hk=>by rw [← hsame]; exact hk
        rw [hgo]
        refine ⟨rfl,rfl,O,ynx hr hsub,by simp [VR,yqo],ygs.refl _ _,yhj fun b o hw=>ymr hsub hw⟩
       .obtain ⟨q1,q2,C',e2,fr2,q3,q4,q5⟩:=hr.ob id _ b xe.size hid g4
        subst q1
        rw [g5] at q3
        simp only [qa,Obj.cells.injEq] at q3
        obtain ⟨rfl,rfl,rfl⟩:=q3
        let cs:=news.take (Nat.min src.length len * xe.size)
        have hm:Nat.min src.length len<=src.length:=Nat.min_le_left _ _
        have hcs:cs.length=Nat.min src.length len * xe.size:=by
          simp only [cs,qp,k1]
          exact wi (qx _ hm)
        have hrl:=yacl q5
        have hcl:C.toList.length=C.size:=by simp
        have hfit:off * xe.size + cs.length<=C.size:=by
          rw [hcs,← jo]
          have:(off + Nat.min src.length len) * xe.size<=rows.length * xe.size:=qx _ (by rw [hlen] at c2; exact c2)
          omega
        have hA2:ARs w (UU A O s.H) xe.size (src.take len) cs:=by
          have:=yxu (k:=Nat.min src.length len * xe.size) (yafi k2 len) (by rw [hlen]; exact qk _)
          exact this
        have hone:=yalh hA2 (by rw [hcs,hlen])
        have hst:=run_storeCells_cells (P:=P) b (off * xe.size) cs 0 w (fun j hj=>by
         rw [yfa g5]; simp; omega) (fun j hj=>yle g5 q4 (by omega)) (fun v hv=>ylh (hone v hv))
        simp only [ka] at hst
        refine ⟨_,_,yanc (B:=some ⟨b,off * xe.size,none⟩) (ty:=ty) hts h1 h2 k3 hf hst,rfl,rfl,O,?_⟩
        obtain ⟨u1,u2,u3,u4,u5,u6⟩:=yii b e' fr cs (off * xe.size) w C g5
        have hwrite:∀ o,¬ yjc xe.size o (.arr xe.size rows leak)->(yjy C (off * xe.size) cs)[o]? = C[o]?:=by
          intro o ho
          rw [yhi,qc]
          intro hh
          apply ho
          simp only [yjc]
          have:leak * xe.size<=off * xe.size:=qx _ c1
          omega
        obtain ⟨hfr,hrep⟩:=ymd (H':=H) (ob':=.arr xe.size (ygw rows off (src.take len)) leak) hr hid g4 g5 u1 u2 u3 u4 u5 u6 (yef _ _ _) hwrite (fun k=>yey hup k) (fun _ hh=>hh)
        rw [hgo]
        refine ⟨hrep ⟨rfl,hz,_,e',fr,u1,by rw [yef]; exact q4,?_⟩,by simp [VR,yqo],ygs.refl _ _,hfr⟩
        rw [yaom C _ cs hfit,ykj _ _ _ c2]
        have hq:=yhu hfr.stay q5
        have h3:=yhu hfr.stay hA2
        have hoff:off<=rows.length:=by omega
        have ha:ARs (w.setCells b (off * xe.size) cs) (UU A O H) xe.size (rows.take off++src.take len) (C.toList.take (off * xe.size)++cs):=by
          refine yly (yxu (yafi hq off) ?_) ?_ h3
          .rw [qp,wi hoff]; exact qk _
          .rw [qp,qp,wi hoff,wi (by omega)]
        refine yly ha ?_ ?_
        .rw [wk,wk,hcs,hlen,qp,qp,wi (by omega:off * xe.size<=C.toList.length),wi hoff,jo]
        .have:=yaqa hq (off + (src.take len).length)
         rwa [jo,hlen,← hcs,← hlen] at this
      .cases h
     .cases h
    .cases h
   .cases h
  .rename_i src hn
   simp only [qa,qi] at h
   obtain ⟨rfl,rfl⟩:=h
   obtain ⟨news,k1,k2,k3,k4⟩:=ynu (P:=P) hr hx hn
   simp only [VR] at hy
   subst hy
   have hf:=k4 w rfl (Nat.min src.length 0) (Nat.min_le_left _ _)
   refine ⟨_,_,yanc (B:=none) (ty:=ty) (w':=w) hts h1 h2 k3 hf rfl,?_⟩
   refine ydt.same hr ?_
   rw [show Nat.min src.length 0=0 from Nat.min_eq_right (jb _)]
   simp [VR,yqo,goInt]
  .cases h
theorem yadu{t ty e:TypeId}{ts:Array TypeId}{tr:List TypeId}(hts:ts.toList=t :: tr)(h1:P.underlying t=some (.slice e)){i:TypeInfo}(hi:P.info? e=some i){zv:Value}(hz:i.zero=some zv){B:Option Addr}{len c:Nat}{w':World}
    (hst:len=0/\w' = w\/∃ a,B=some a/\0 < len/\(storeCells a (ygp zv.cells (len * zv.cells.size)).toList:Sem Unit).run P w = .ok () w') :
    (Builtin.clear_ ts ty #[.slice B len c]).run P w = .ok (.tuple #[]) w':=by
  have h0:ts[0]? = some t:=by rw [← qu,hts]; rfl
  have hzr:(zeroValue e).run P w = .ok zv w:=by simp [zeroValue,typeInfo,hi,hz,Sem.run_bind]
  rcases hst with ⟨rfl,rfl⟩ | ⟨a,rfl,hl,hst⟩
  .cases B <;> simp [Builtin.clear_,h0,run_underlying h1]
  .obtain ⟨m,rfl⟩:∃ k,len=k + 1:=⟨len - 1,by omega⟩
   have hzc:Builtin.zeroCells zv.cells (m + 1) = ygp zv.cells ((m + 1) * zv.cells.size):=rfl
   simp [Builtin.clear_,h0,run_underlying h1,hzr,hzc,hst]
theorem ycdg{es o n:Nat}{rows rs:List (List AV)}{C:Array Value}{cs:List Value}{w':World}{U':Nat->Nat->Prop}(hst:ydo w U w' U')(h:AXs w U O es rows C.toList)(h2:ARs w' U' es rs cs)(hn:rs.length=n)(hcs:cs.length=n * es)(hle:o + n<=rows.length)(hC:rows.length * es<=C.size) :
    AXs w' U' O es (ygw rows o rs) (yjy C (o * es) cs).toList:=by
  subst hn
  have hfit:o * es + cs.length<=C.size:=by
    rw [hcs,← jo]
    have:=qx es hle
    omega
  refine ywu fun i r hi=>?_
  rw [ykj _ _ _ hle] at hi
  have hsz:(yjy C (o * es) cs).toList.length=C.size:=by simp [yef]
  have hget:∀ j,(yjy C (o * es) cs).toList[j]? = if o * es<=j/\j < o * es + cs.length then cs[j - o * es]? else C.toList[j]?:=fun j=>by
    rw [qu,yhi]
    split
    .rename_i hh
     split
     .rfl
     .rename_i hh'; exact absurd hh (by omega)
    .rename_i hh
     split
     .rename_i hh'; exact absurd hh' (by omega)
     .simp
  by_cases hin:o<=i/\i < o + rs.length
  .have hr:rs[i - o]? = some r:=by
     rw [jr,jc (by rw [qp]; omega),qp,wi (by omega),jl (by omega)] at hi
     exact hi
   obtain ⟨g1,g2,g3,g4⟩:=yid h2 hr
   have heq:((yjy C (o * es) cs).toList.drop (i * es)).take es=(cs.drop ((i - o) * es)).take es:=by
     apply jx
     intro j
     rw [qn,qn]
     split
     .rename_i hj
      rw [qo,qo,hget]
      have e1:i * es=o * es + (i - o) * es:=by rw [← jo]; congr 1; omega
      rw [we] at g2
      rw [qe (by omega)]
      congr 1; omega
     .rfl
   rw [heq]
   refine ⟨g1,?_,ydp (ydo.refl _ _) _ _ ych O (fun id x hx=>by cases hx) g3,g4⟩
   rw [hsz]
   have:=qx es (show i + 1<=rows.length by omega)
   omega
  .have hr:rows[i]? = some r:=by
     rcases qz i o with hl | hl
     .rw [jr,jl (by rw [qp]; omega),qn,qe hl] at hi
      exact hi
     .rw [jc (by rw [wk,qp]; omega),wk,qp,wi (by omega),qo] at hi
      rw [← hi]; congr 1; omega
   obtain ⟨g1,g2,g3,g4⟩:=ylp h hr
   have heq:((yjy C (o * es) cs).toList.drop (i * es)).take es=(C.toList.drop (i * es)).take es:=by
     apply jx
     intro j
     rw [qn,qn]
     split
     .rename_i hj
      rw [qo,qo,hget,qc]
      rintro ⟨q1,q2⟩
      rcases qz i o with hl | hl
      .have:=qx es (show i + 1<=o by omega)
       rw [we] at this; omega
      .have:=qx es (show o + rs.length<=i by omega)
       rw [jo,← hcs] at this; omega
     .rfl
   rw [heq]
   exact ⟨g1,by rw [hsz]; simpa using g2,ydp hst _ _ _ _ (Ext.refl _) g3,g4⟩
theorem yclg{s s':St}(hr:Rep A O s.H s.nx w){t ty e:TypeId}{ts:Array TypeId}{tr:List TypeId}(hts:ts.toList=t :: tr){xe:TI}(h1:P.underlying t=some (.slice e))(h2:ybt P e=some xe){z0:List AV}(hz0:zeroCells xe=some z0)(hz:0 < xe.size/\z0.length=xe.size){y v:AV}{Y:Value}(hy:VR w (UU A O s.H) O y Y)(h:ymf xe.size (ydn [] z0) s y=some (v,s')) :
    ∃ z w',(Builtin.clear_ ts ty #[Y]).run P w = .ok z w'/\ydt A O s w v s' z w':=by
  obtain ⟨_,i,hi1,hi2,hi3,hi4⟩:=ygh h2
  obtain ⟨zv,hz1,hz2,hz3⟩:=yra hz0
  have hzero:i.zero=some zv:=by rw [hi4]; exact hz1
  have hvz:∀ {w:World} {U:Nat->Nat->Prop},VRs w U ych (ydn [] z0) zv.cells.toList:=hz3
  have hflen:(ydn [] z0).length=xe.size:=by
    rw [← hz.2]
    have h3:=ycd (hvz (w:=w) (U:=A))
    have h4:∀ l:List AV,(ydn [] l).length=l.length:=fun l=>by induction l with | nil=>rfl | cons _ _ ih=>simp [ydn,ih]
    exact h4 z0
  have hzs:zv.cells.size=xe.size:=by have:=ycd (hvz (w:=w) (U:=A)); simp at this; omega
  unfold ymf at h
  split at h
  .rename_i es' id off len ex
   split at h
   .rename_i hes
    subst hes
    simp only [VR] at hy
    obtain ⟨B,c,rfl,g1,g2,g3⟩:=hy
    have hne:(∀ k,lk s'.H k=lk s.H k)->s'.env=s.env->s'.loc=s.loc->s'.nx=s.nx->v = .tup []->len=0->∃ z w',(Builtin.clear_ ts ty #[.slice B len c]).run P w = .ok z w'/\ydt A O s w v s' z w':=by
      intro hsame he hl hnx hv h0
      subst hv
      refine ⟨_,_,yadu (ty:=ty) hts h1 hi1 hzero (.inl ⟨h0,rfl⟩),he,hl,O,?_,by simp [VR,VRs],?_,yhj fun b o hw=>ymr (fun k o hk=>by rw [← hsame]; exact hk) hw⟩
      .rw [hnx]; exact ynx hr fun k o hk=>by rw [← hsame]; exact hk
      .rw [hnx]; exact ygs.refl _ _
    have hA:∀ {w:World} {U:Nat->Nat->Prop},ARs w U xe.size (List.replicate len (ydn [] z0)) (ygp zv.cells (len * xe.size)).toList:=yaai (n:=len) (c:=len) hz.1 hflen hvz (ylq hz2 (hvz (w:=w) (U:=A))) (qk _)
    have hzl:(ygp zv.cells (len * xe.size)).toList.length=len * xe.size:=by simp [ygp]
    have hone:=yalh (hA (w:=w) (U:=A)) (by rw [hzl,jy])
    split at h
    .rename_i es2 rows leak hid
     split at h
     .rename_i hc
      obtain ⟨c1,c2⟩:=hc
      split at h
      .rename_i H hup
       simp only [qa,qi] at h
       obtain ⟨rfl,rfl⟩:=h
       rcases jf len with h0 | h0
       .refine hne (fun k=>?_) rfl rfl rfl rfl h0
        show lk H k=_
        rw [yey hup k]
        split
        .rename_i hk; subst hk; rw [hid,h0]
         rw [ykj _ _ _ (by simp; omega)]; simp
        .rfl
       .rcases g3 with ⟨rfl,rfl⟩ | ⟨b,C,e',fr,g4,rfl,g5,g6⟩
        .omega
        .obtain ⟨q1,q2,C',e2,fr2,q3,q4,q5⟩:=hr.ob id _ b xe.size hid g4
         subst q1
         rw [g5] at q3
         simp only [qa,Obj.cells.injEq] at q3
         obtain ⟨rfl,rfl,rfl⟩:=q3
         have hrl:=yacl q5
         have hcl:C.toList.length=C.size:=by simp
         have hfit:off * xe.size + (ygp zv.cells (len * xe.size)).toList.length<=C.size:=by
           rw [hzl,← jo]
           have:(off + len) * xe.size<=rows.length * xe.size:=qx _ c2
           omega
         have hst:=run_storeCells_cells (P:=P) b (off * xe.size) (ygp zv.cells (len * xe.size)).toList 0 w (fun j hj=>by
          rw [yfa g5]; simp; omega) (fun j hj=>yle g5 q4 (by omega)) (fun v hv=>ylh (hone v hv))
         simp only [ka] at hst
         refine ⟨_,_,yadu (ty:=ty) hts h1 hi1 hzero (.inr ⟨_,rfl,h0,by rw [hzs]; exact hst⟩),rfl,rfl,O,?_⟩
         obtain ⟨u1,u2,u3,u4,u5,u6⟩:=yii b e' fr (ygp zv.cells (len * xe.size)).toList (off * xe.size) w C g5
         have hwrite:∀ o,¬ yjc xe.size o (.arr xe.size rows leak)->(yjy C (off * xe.size) (ygp zv.cells (len * xe.size)).toList)[o]? = C[o]?:=by
           intro o ho
           rw [yhi,qc]
           intro hh
           apply ho
           simp only [yjc]
           have:leak * xe.size<=off * xe.size:=qx _ c1
           omega
         obtain ⟨hfr,hrep⟩:=ymd (H':=H) (ob':=.arr xe.size (ygw rows off (List.replicate len (ydn [] z0))) leak) hr hid g4 g5 u1 u2 u3 u4 u5 u6 (yef _ _ _) hwrite (fun k=>yey hup k) (fun _ hh=>hh)
         refine ⟨hrep ⟨rfl,hz.1,_,e',fr,u1,by rw [yef]; exact q4,?_⟩,by simp [VR,VRs],ygs.refl _ _,hfr⟩
         rw [yaom C _ _ hfit,ykj _ _ _ (by rw [jy]; exact c2)]
         have hq:=yhu hfr.stay q5
         have hoff:off<=rows.length:=by omega
         have ha:ARs (w.setCells b (off * xe.size) (ygp zv.cells (len * xe.size)).toList) (UU A O H) xe.size (rows.take off++List.replicate len (ydn [] z0)) (C.toList.take (off * xe.size)++(ygp zv.cells (len * xe.size)).toList):=by
           refine yly (yxu (yafi hq off) ?_) ?_ hA
           .rw [qp,wi hoff]; exact qk _
           .rw [qp,qp,wi hoff,wi (by omega)]
         refine yly ha ?_ ?_
         .rw [wk,wk,hzl,jy,qp,qp,wi (by omega:off * xe.size<=C.toList.length),wi hoff,jo]
         .have:=yaqa hq (off + len)
          rw [hzl,jy]
          rwa [jo] at this
      .cases h
     .cases h
    .rename_i es2 rows hid
     split at h
     .rename_i c2
      split at h
      .rename_i H hup
       simp only [qa,qi] at h
       obtain ⟨rfl,rfl⟩:=h
       rcases jf len with h0 | h0
       .refine hne (fun k=>?_) rfl rfl rfl rfl h0
        show lk H k=_
        rw [yey hup k]
        split
        .rename_i hk; subst hk; rw [hid,h0]
         rw [ykj _ _ _ (by simp; omega)]; simp
        .rfl
       .rcases g3 with ⟨rfl,rfl⟩ | ⟨b,C,e',fr,g4,rfl,g5,g6⟩
        .omega
        .obtain ⟨q1,q2,C',e2,fr2,q3,q4,q5⟩:=hr.ob id _ b xe.size hid g4
         subst q1
         rw [g5] at q3
         simp only [qa,Obj.cells.injEq] at q3
         obtain ⟨rfl,rfl,rfl⟩:=q3
         have hrl:rows.length * xe.size<=C.size:=by
           rcases jf rows.length with hh | hh
           .rw [hh]; simp
           .obtain ⟨_,k2,_⟩:=ylp q5 (qj (show rows.length - 1 < rows.length by omega))
            simp only [Array.length_toList] at k2
            rwa [show rows.length - 1 + 1=rows.length by omega] at k2
         have hfit:off * xe.size + (ygp zv.cells (len * xe.size)).toList.length<=C.size:=by
           rw [hzl,← jo]
           have:(off + len) * xe.size<=rows.length * xe.size:=qx _ c2
           omega
         have hst:=run_storeCells_cells (P:=P) b (off * xe.size) (ygp zv.cells (len * xe.size)).toList 0 w (fun j hj=>by
          rw [yfa g5]; simp; omega) (fun j hj=>yle g5 q4 (by omega)) (fun v hv=>ylh (hone v hv))
         simp only [ka] at hst
         refine ⟨_,_,yadu (ty:=ty) hts h1 hi1 hzero (.inr ⟨_,rfl,h0,by rw [hzs]; exact hst⟩),rfl,rfl,O,?_⟩
         obtain ⟨u1,u2,u3,u4,u5,u6⟩:=yii b e' fr (ygp zv.cells (len * xe.size)).toList (off * xe.size) w C g5
         have hwrite:∀ o,¬ yjc xe.size o (.arx xe.size rows)->(yjy C (off * xe.size) (ygp zv.cells (len * xe.size)).toList)[o]? = C[o]?:=by
           intro o ho
           exact absurd trivial ho
         obtain ⟨hfr,hrep⟩:=ymd (H':=H) (ob':=.arx xe.size (ygw rows off (List.replicate len (ydn [] z0)))) hr hid g4 g5 u1 u2 u3 u4 u5 u6 (yef _ _ _) hwrite (fun k=>yey hup k) (fun _ hh=>trivial)
         refine ⟨hrep ⟨rfl,hz.1,_,e',fr,u1,by rw [yef]; exact q4,?_⟩,by simp [VR,VRs],ygs.refl _ _,hfr⟩
         exact ycdg hfr.stay q5 hA (jy ..) hzl c2 hrl
      .cases h
     .cases h
    .cases h
   .cases h
  .simp only [qa,qi] at h
   obtain ⟨rfl,rfl⟩:=h
   simp only [VR] at hy
   subst hy
   exact ⟨_,_,yadu (ty:=ty) (w:=w) hts h1 hi1 hzero (.inl ⟨rfl,rfl⟩),ydt.same hr (by simp [VR,VRs])⟩
  .cases h
end
def ywj(P:Program)(A:Nat->Nat->Prop)(O:Rho)(s:St)(w:World)(v:AV)(s':St)(o:Oper)(a:Act):Prop:=
  ∀ (K:Act->World->Prop) (Q:Exit->Act->World->Prop),(∀ x w',ydt A O s w v s' x w'->K (a.put o.dst x) w')->o.wp P a w K Q
section
variable {P:Program} {w:World} {A:Nat->Nat->Prop} {O:Rho} {s s':St} {v:AV} {o:Oper} {a:Act}
theorem ymv{m:Sem Value}(he:execOp a.eval o=(do pure (Next.value (← m))))(h:∃ x w',m.run P w = .ok x w'/\ydt A O s w v s' x w'):ywj P A O s w v s' o a:=by
  intro K Q hK
  obtain ⟨x,w',h1,h2⟩:=h
  unfold Oper.wp
  rw [he]
  simp only [Sem.run_bind,h1,Result.andThen_ok,Sem.run_pure]
  exact hK x w' h2
theorem ycqg{m:Sem Unit}(he:execOp a.eval o=(do m; pure Next.skip))(h:∃ w',m.run P w = .ok () w'/\ydt A O s w v s' undef w'):ywj P A O s w v s' o a:=by
  intro K Q hK
  obtain ⟨w',h1,h2⟩:=h
  unfold Oper.wp
  rw [he]
  simp only [Sem.run_bind,h1,Result.andThen_ok,Sem.run_pure]
  exact hK undef w' h2
theorem yjx{g:Option AV}(h:keep s g=some (v,s')):g=some v/\s' = s:=by
  cases g with
  | none=>simp [keep] at h
  | some x=>
    simp only [keep,qa,qi] at h
    exact ⟨by rw [h.1],h.2.symm⟩
theorem yeh{m:Sem Value}(hr:Rep A O s.H s.nx w)(he:execOp a.eval o=(do pure (Next.value (← m)))){g:Option AV}(hg:keep s g=some (v,s'))(h:g=some v->∃ x,m.run P w = .ok x w/\VR w (UU A O s.H) O v x):ywj P A O s w v s' o a:=by
  obtain ⟨hg',rfl⟩:=yjx hg
  obtain ⟨x,h1,h2⟩:=h hg'
  exact ymv he ⟨x,w,h1,ydt.same hr h2⟩
theorem yrj{t:TypeId}{xe:TI}(h:yrk P t=some xe):∃ e,P.underlying t=some (.slice e)/\ybt P e=some xe:=by
  unfold yrk at h
  split at h
  .rename_i e _ _ _ ht
   exact ⟨e,(ygh ht).1,h⟩
  .cases h
theorem yun(xs:Array Operand):(xs.map a.eval).toList=xs.toList.map a.eval:=by simp
theorem yact{w:World}{U:Nat->Nat->Prop}{O:Rho}{x y:AV}{xs:Array Value}(h:VRs w U O [x,y] xs.toList):∃ X Y,xs = #[X,Y]/\VR w U O x X/\VR w U O y Y:=by
  simp only [VRs] at h
  obtain ⟨X,r,h1,h2,Y,r2,rfl,h3,rfl⟩:=h
  exact ⟨X,Y,by apply Array.ext'; simpa using h1,h2,h3⟩
theorem yaqq{w:World}{U:Nat->Nat->Prop}{O:Rho}{x:AV}{xs:Array Value}(h:VRs w U O [x] xs.toList):∃ X,xs = #[X]/\VR w U O x X:=by
  simp only [VRs] at h
  obtain ⟨X,r,h1,h2,rfl⟩:=h
  exact ⟨X,by apply Array.ext'; simpa using h1,h2⟩
theorem ybiw{α:Type}{xs:Array α}{x:α}(h:xs.toList = [x]):xs = #[x]:=by apply Array.ext'; simpa using h
theorem yzy{α:Type}{xs:Array α}{x y:α}(h:xs.toList = [x,y]):xs = #[x,y]:=by apply Array.ext'; simpa using h
def yqd:IP->Bool
  | .call _ _=>true
  | .callv _ _=>true
  | _=>false
theorem yash{c:Cfg}{cl:Callee}(hr:Rep A O s.H s.nx w)(hv:ynh w (UU A O s.H) O s a){b:Builtin}{args:Array Operand}{ts:Array TypeId}(ho:o.op = .call ⟨.builtin b,args,ts⟩){as:List Opd}(has:yqr args.toList=some as){ip:IP}
    (hc:yki P b as ts.toList=some ip) (h:ybi c cl s ip=some (v,s')):ywj P A O s w v s' o a:=by
  have hvs:=yrf hv has
  rw [← yun] at hvs
  have hexec:execOp a.eval o=builtin b ts o.type (args.map fun | .const _=>true | _=>false) (args.map a.eval):=by
    simp only [execOp,ho,resolve]
    rfl
  unfold yki at hc
  split at hc
  .rename_i x t hts
   obtain ⟨X,hX,h1⟩:=yaqq hvs
   have hts':=ybiw hts
   split at hc
   .rename_i ti hti
    split at hc
    .rename_i hd
     simp only [qa] at hc
     subst hc
     refine yeh (m:=Builtin.len_ ts o.type #[X]) hr ?_ h fun hg=>?_
     .rw [hexec,hX]; rfl
     .rw [hts']; exact ycaz hti hd h1 hg
    .rename_i e hd
     simp only [qa] at hc
     subst hc
     refine yeh (m:=Builtin.len_ ts o.type #[X]) hr ?_ h fun hg=>?_
     .rw [hexec,hX]; rfl
     .rw [hts']; exact ycay hti hd h1 hg
    .cases hc
   .cases hc
  .rename_i x y _
   obtain ⟨X,Y,hX,h1,h2⟩:=yact hvs
   simp only [qa] at hc
   subst hc
   refine yeh (m:=Builtin.max_ ts o.type #[X,Y]) hr ?_ h fun hg=>?_
   .rw [hexec,hX]; rfl
   .exact ydgw h1 h2 hg
  .rename_i x y _
   obtain ⟨X,Y,hX,h1,h2⟩:=yact hvs
   simp only [qa] at hc
   subst hc
   refine yeh (m:=Builtin.min_ ts o.type #[X,Y]) hr ?_ h fun hg=>?_
   .rw [hexec,hX]; rfl
   .exact ydgv h1 h2 hg
  .rename_i x y t t2 hts
   obtain ⟨X,Y,hX,h1,h2⟩:=yact hvs
   have hts':=yzy hts
   split at hc
   .rename_i xe x2 hxe hx2
    split at hc
    .rename_i z hz
     split at hc
     .rename_i hcond
      simp only [qa] at hc
      subst hc
      obtain ⟨e,g1,g2⟩:=yrj hxe
      refine ymv (m:=Builtin.append_ ts o.type #[X,Y]) ?_ ?_
      .rw [hexec,hX]; rfl
      .rw [hts']
       exact ycld hr ⟨e,xe,x2,z,g1,g2,hx2,hz,hcond.1,hcond.2.1,hcond.2.2.1,hcond.2.2.2,rfl⟩ h1 h2 h
     .cases hc
    .cases hc
   .cases hc
  .rename_i x y t tr hts
   obtain ⟨X,Y,hX,h1,h2⟩:=yact hvs
   split at hc
   .rename_i xe hxe
    split at hc
    .rename_i hcond
     simp only [qa] at hc
     subst hc
     obtain ⟨e,g1,g2⟩:=yrj hxe
     refine ymv (m:=Builtin.copy_ ts o.type #[X,Y]) ?_ ?_
     .rw [hexec,hX]; rfl
     .exact yclh hr hts g1 g2 hcond h1 h2 h
    .cases hc
   .cases hc
  .rename_i x t tr hts
   obtain ⟨X,hX,h1⟩:=yaqq hvs
   split at hc
   .rename_i xe hxe
    split at hc
    .rename_i z hz
     split at hc
     .rename_i hcond
      simp only [qa] at hc
      subst hc
      obtain ⟨e,g1,g2⟩:=yrj hxe
      refine ymv (m:=Builtin.clear_ ts o.type #[X]) ?_ ?_
      .rw [hexec,hX]; rfl
      .exact yclg hr hts g1 g2 hz hcond h1 h
     .cases hc
    .cases hc
   .cases hc
  .cases hc
end
section
variable {P:Program} {w:World} {A:Nat->Nat->Prop} {O:Rho} {s s':St} {v:AV} {o:Oper} {a:Act} {c:Cfg} {cl:Callee} {ip:IP}
theorem ybxa(hr:Rep A O s.H s.nx w)(hv:ynh w (UU A O s.H) O s a){op:BinOp}{t ty2:TypeId}{x y:Operand}(ho:o.op = .binOp op t x y ty2){X Y:Opd}(hx:opd x=some X)(hy:opd y=some Y)(hc:ypq P op t X Y=some ip)(h:ybi c cl s ip=some (v,s')):ywj P A O s w v s' o a:=by
  have h1:=ycv hv hx
  have h2:=ycv hv hy
  have hexec:execOp a.eval o=(do pure (Next.value (← (do eqGuard op t x y (a.eval x) (a.eval y); binOp op t (a.eval x) (a.eval y))))):=by
    simp only [execOp,ho]
  unfold ypq at hc
  split at hc
  .rename_i ti hti
   split at hc
   .simp only [qa] at hc
    subst hc
    exact yeh hr hexec h fun hg=>ybat h1 h2 hg
   .simp only [qa] at hc
    subst hc
    exact yeh hr hexec h fun hg=>ybat h1 h2 hg
   .rename_i hd
    split at hc
    .simp only [qa] at hc
     subst hc
     exact yeh hr hexec h fun hg=>ybaw (neg:=false) hti hd h1 h2 hg
    .simp only [qa] at hc
     subst hc
     exact yeh hr hexec h fun hg=>ybaw (neg:=true) hti hd h1 h2 hg
    .cases hc
   .rename_i fs hd
    split at hc
    .cases hc
    .rename_i hgd
     have hgd':P.stoodInHeld t=false/\P.eqGuardType P.depth t=false:=by
       simpa [ju] using hgd
     split at hc
     .rename_i l hl
      split at hc
      .simp only [qa] at hc
       subst hc
       exact yeh hr hexec h fun hg=>ybax (neg:=false) hti hd hgd'.1 hgd'.2 hl h1 h2 hg
      .simp only [qa] at hc
       subst hc
       exact yeh hr hexec h fun hg=>ybax (neg:=true) hti hd hgd'.1 hgd'.2 hl h1 h2 hg
      .cases hc
     .cases hc
   .rename_i n e hd
    split at hc
    .cases hc
    .rename_i hgd
     have hgd':P.eqGuardType P.depth t=false:=by simpa using hgd
     split at hc
     .rename_i te hte
      split at hc
      .rename_i q hq
       split at hc
       .rename_i hz
        have hz:=qy hz
        split at hc
        .simp only [qa] at hc
         subst hc
         exact yeh hr hexec h fun hg=>ybav (neg:=false) hti hd hgd' hte hq hz h1 h2 hg
        .simp only [qa] at hc
         subst hc
         exact yeh hr hexec h fun hg=>ybav (neg:=true) hti hd hgd' hte hq hz h1 h2 hg
        .cases hc
       .cases hc
      .cases hc
     .cases hc
   .rename_i e hd
    split at hc
    .rename_i hy0
     have hY:a.eval y = .slice none 0 0:=by
       cases Y with
       | t n=>simp [nilC] at hy0
       | c u=>
         cases u <;> simp [nilC] at hy0
         simpa [St.ev,VR] using h2
     rw [hY] at hexec
     split at hc
     .simp only [qa] at hc
      subst hc
      exact yeh hr hexec h fun hg=>ybay (neg:=false) hti hd h1 hg
     .simp only [qa] at hc
      subst hc
      exact yeh hr hexec h fun hg=>ybay (neg:=true) hti hd h1 hg
     .cases hc
    .cases hc
   .cases hc
  .cases hc
theorem yblg(hr:Rep A O s.H s.nx w)(hv:ynh w (UU A O s.H) O s a){t t2:TypeId}{x:Operand}(ho:o.op = .convert t t2 x){X:Opd}(hx:opd x=some X)(hc:ynj P t t2 X=some ip)(h:ybi c cl s ip=some (v,s')):ywj P A O s w v s' o a:=by
  have h1:=ycv hv hx
  have hexec:execOp a.eval o=(do pure (Next.value (← convert t t2 (a.eval x)))):=by simp only [execOp,ho]
  unfold ynj at hc
  split at hc
  .rename_i xs xd hxs hxd
   split at hc
   .rename_i k e1 e2
    simp only [qa] at hc
    subst hc
    exact yeh hr hexec h fun hg=>yclj hxs hxd e2 h1 hg
   .rename_i e1 e2
    simp only [qa] at hc
    subst hc
    exact yeh hr hexec h fun hg=>ycli hxs hxd e2 h1 hg
   .rename_i e e1 e2
    split at hc
    .rename_i _ _ _ hte
     simp only [qa] at hc
     subst hc
     exact ymv hexec (yclt hr hxs hxd e2 hte rfl h1 h)
    .cases hc
   .rename_i e e1 e2
    split at hc
    .rename_i _ _ _ hte
     simp only [qa] at hc
     subst hc
     exact yeh hr hexec h fun hg=>ycle hr hxs e1 hxd e2 hte rfl h1 hg
    .cases hc
   .cases hc
  .cases hc
theorem ycnb{pl:List (Nat × Operand)}{parts:Array (Nat × Operand)}(h:parts.toList=pl):(parts.map fun (i,x)=>(i,a.eval x)).toList=pl.map fun p=>(p.1,a.eval p.2):=by
  subst h; simp
theorem ybcw(hr:Rep A O s.H s.nx w)(hv:ynh w (UU A O s.H) O s a)(hc:ykx P o.op=some ip)(hn:yqd ip=false)(h:ybi c cl s ip=some (v,s')):ywj P A O s w v s' o a:=by
  cases ho:o.op <;> simp only [ho,ykx] at hc
  case move x=>
    split at hc
    .rename_i X hx
     simp only [qa] at hc
     subst hc
     simp only [ybi,qa,qi] at h
     obtain ⟨rfl,rfl⟩:=h
     refine ymv (m:=pure (a.eval x)) (by simp only [execOp,ho,pure_bind]) ⟨_,w,Sem.run_pure ..,ydt.same hr (ycv hv hx)⟩
    .cases hc
  case assign x=>
    split at hc
    .rename_i X hx
     simp only [qa] at hc
     subst hc
     simp only [ybi,qa,qi] at h
     obtain ⟨rfl,rfl⟩:=h
     refine ymv (m:=pure (a.eval x)) (by simp only [execOp,ho,pure_bind]) ⟨_,w,Sem.run_pure ..,ydt.same hr (ycv hv hx)⟩
    .cases hc
  case pick b x y=>
    split at hc
    .rename_i B X Y hb hx hy
     simp only [qa] at hc
     subst hc
     obtain ⟨hg,rfl⟩:=yjx h
     obtain ⟨z,h1,h2⟩:=ycba (P:=P) (ycv hv hb) (ycv hv hx) (ycv hv hy) hg
     intro K Q hK
     unfold Oper.wp
     have:(execOp a.eval o).run P w = .ok (.value z) w:=by
       rw [← h1]
       simp only [execOp,ho]
     rw [this]
     exact hK z w (ydt.same hr h2)
    .cases hc
  case binOp op t x y t2=>
    split at hc
    .rename_i X Y hx hy
     exact ybxa hr hv ho hx hy hc h
    .cases hc
  case unOp op t x=>
    split at hc
    .rename_i X hx
     simp only [qa] at hc
     subst hc
     exact yeh (m:=Op.unary .neg (a.eval x)) hr (by simp only [execOp,ho]) h fun hg=>ycls (ycv hv hx) hg
    .rename_i X hx
     simp only [qa] at hc
     subst hc
     exact yeh (m:=Op.unary .not (a.eval x)) hr (by simp only [execOp,ho]) h fun hg=>ydgy (ycv hv hx) hg
    .cases hc
  case convert t t2 x=>
    split at hc
    .rename_i X hx
     exact yblg hr hv ho hx hc h
    .cases hc
  case build t parts=>
    split at hc
    .rename_i ti ps ht hp
     split at hc
     .rename_i z l hz hl
      split at hc
      .rename_i hcond
       simp only [qa] at hc
       subst hc
       simp only [qq] at hcond
       exact yeh (m:=Instr.build t (parts.map fun (i,x)=>(i,a.eval x))) hr (by simp only [execOp,ho]) h fun hg=>ybsw hv ht hp hz hl hcond.1 hcond.2 hg
      .cases hc
     .cases hc
    .cases hc
  case buildSlice t len parts=>
    split at hc
    .rename_i xe ps hxe hp
     split at hc
     .rename_i z hz
      split at hc
      .rename_i hcond
       simp only [qa] at hc
       subst hc
       obtain ⟨e,g1,g2⟩:=yrj hxe
       refine ymv (m:=Instr.buildSlice t len (parts.map fun (i,x)=>(i,a.eval x))) (by simp only [execOp,ho]) ?_
       refine ybau hr ⟨e,xe,g1,g2,⟨z,hz,rfl⟩,hcond.1,by rw [ysg]; exact hcond.2.2.1,rfl,hcond.2.1⟩ hcond.2.2.2 ?_ h
       rw [ycnb rfl]
       exact yaxg hv hp
      .cases hc
     .cases hc
    .cases hc
  case load t p=>
    split at hc
    .rename_i x p' ht hp
     simp only [qa] at hc
     subst hc
     exact yeh (m:=Instr.loadAt t (a.eval p)) hr (by simp only [execOp,ho]) h fun hg=>yavd hr ht (ycv hv hp) hg
    .cases hc
  case store t p x=>
    split at hc
    .rename_i ti p' x' ht hp hx
     simp only [qa] at hc
     subst hc
     simp only [ybi] at h
     split at h
     .rename_i H hH
      simp only [qa,qi] at h
      obtain ⟨rfl,rfl⟩:=h
      exact ycqg (m:=Instr.storeAt t (a.eval p) (a.eval x)) (by simp only [execOp,ho]) (ybsy hr ht (ycv hv hp) (ycv hv hx) hH)
     .cases h
    .cases hc
  case nilCheck x=>
    split at hc
    .rename_i X hx
     simp only [qa] at hc
     subst hc
     obtain ⟨hg,rfl⟩:=yjx h
     obtain ⟨z,h1,h2⟩:=ydgx (P:=P) (ycv hv hx) hg
     intro K Q hK
     unfold Oper.wp
     have:(execOp a.eval o).run P w = .ok (.value z) w:=by
       rw [← h1]
       simp only [execOp,ho]
       rfl
     rw [this]
     exact hK z w (ydt.same hr h2)
    .cases hc
  case alloc t=>
    split at hc
    .rename_i x ht
     split at hc
     .rename_i z hz
      simp only [qa] at hc
      subst hc
      simp only [ybi,qa,qi] at h
      obtain ⟨rfl,rfl⟩:=h
      exact ymv (m:=Instr.alloc t true (.tuple #[])) (by simp only [execOp,ho]) (ybsv hr ht hz)
     .cases hc
    .cases hc
  case box t x=>
    split at hc
    .rename_i X hx
     simp only [qa] at hc
     subst hc
     simp only [ybi] at h
     split at h
     .rename_i cs hcs
      split at h
      .simp only [qa,qi] at h
       obtain ⟨rfl,rfl⟩:=h
       exact ymv (m:=Instr.box t (a.eval x)) (by simp only [execOp,ho]) (yclf hr (ycv hv hx) hcs)
      .cases h
     .cases h
    .cases hc
  case makeFunc f pre post=>
    cases f with
    | func f=>
      simp only at hc
      split at hc
      .rename_i X Y hx hy
       simp only [qa] at hc
       subst hc
       simp only [ybi,qa,qi] at h
       obtain ⟨rfl,rfl⟩:=h
       refine ymv (m:=Instr.makeFunc (.func f) (pre.map a.eval) (post.map a.eval)) (by simp only [execOp,ho]) ⟨.func (.func f) (pre.map a.eval) (post.map a.eval),w,rfl,ydt.same hr ?_⟩
       simp only [VR]
       exact ⟨_,_,rfl,by rw [yun]; exact yrf hv hx,by rw [yun]; exact yrf hv hy⟩
      .cases hc
    | _=>simp at hc
  case makeSlice t l m=>
    split at hc
    .rename_i xe L M hxe hl hm
     split at hc
     .rename_i z hz
      split at hc
      .rename_i hcond
       simp only [qa] at hc
       subst hc
       obtain ⟨e,g1,g2⟩:=yrj hxe
       exact ymv (m:=Instr.makeSlice t (a.eval l) (a.eval m)) (by simp only [execOp,ho]) (yclr hr ⟨e,xe,g1,g2,⟨z,hz,rfl⟩,hcond.1,by rw [ysg]; exact hcond.2.2,rfl,hcond.2.1⟩ (ycv hv hl) (ycv hv hm) h)
      .cases hc
     .cases hc
    .cases hc
  case slice t x lo hi mx=>
    split at hc
    .rename_i ti X LO HI MX ht hx hlo hhi hmx
     split at hc
     .rename_i hd
      split at hc
      .simp only [qa] at hc
       subst hc
       have hm:mx=none:=by
         cases mx with
         | none=>rfl
         | some m=>
           simp only [oopd] at hmx
           split at hmx <;> cases hmx
       subst hm
       exact yeh (m:=Instr.sliceAt t (a.eval x) (lo.map a.eval) (hi.map a.eval) none) hr (by simp only [execOp,ho]; rfl) h fun hg=>yclv ht hd (ycv hv hx) (yuh hv hlo) (yuh hv hhi) hg
      .cases hc
     .rename_i e hd
      split at hc
      .rename_i xe hxe
       split at hc
       .rename_i hz
        simp only [qa] at hc
        subst hc
        exact yeh (m:=Instr.sliceAt t (a.eval x) (lo.map a.eval) (hi.map a.eval) (mx.map a.eval)) hr (by simp only [execOp,ho]) h fun hg=>yclu ht hd hxe hz (ycv hv hx) (yuh hv hlo) (yuh hv hhi) (yuh hv hmx) hg
       .cases hc
      .cases hc
     .cases hc
    .cases hc
  case fieldAddr t x f=>
    split at hc
    .rename_i fs _ _ _ X ht hx
     split at hc
     .rename_i fl hfl
      split at hc
      .rename_i xf hxf
       split at hc
       .rename_i hz
        simp only [qa] at hc
        subst hc
        exact yeh (m:=Instr.fieldAt t (a.eval x) f) hr (by simp only [execOp,ho]) h fun hg=>ydgu ht rfl hfl hxf hz (ycv hv hx) hg
       .cases hc
      .cases hc
     .cases hc
    .cases hc
  case field t x f=>
    split at hc
    .rename_i fs _ _ _ X ht hx
     split at hc
     .rename_i fl hfl
      split at hc
      .rename_i xf hxf
       simp only [qa] at hc
       subst hc
       exact yeh (m:=Instr.field t (a.eval x) f) hr (by simp only [execOp,ho]) h fun hg=>yclm ht rfl hfl hxf (ycv hv hx) hg
      .cases hc
     .cases hc
    .cases hc
  case indexAddr t x i=>
    split at hc
    .rename_i ti X I ht hx hi
     split at hc
     .rename_i e hd
      split at hc
      .rename_i xe hxe
       split at hc
       .simp only [qa] at hc
        subst hc
        exact yeh (m:=Instr.indexAt t (a.eval x) (a.eval i)) hr (by simp only [execOp,ho]) h fun hg=>yclo ht hd hxe (ycv hv hx) (ycv hv hi) hg
       .cases hc
      .cases hc
     .rename_i n e hd
      split at hc
      .rename_i xe hxe
       simp only [qa] at hc
       subst hc
       exact yeh (m:=Instr.indexAt t (a.eval x) (a.eval i)) hr (by simp only [execOp,ho]) h fun hg=>ycln ht hd hxe (ycv hv hx) (ycv hv hi) hg
      .cases hc
     .cases hc
    .cases hc
  case index t x i=>
    split at hc
    .rename_i ti X I ht hx hi
     split at hc
     .rename_i hd
      simp only [qa] at hc
      subst hc
      exact yeh (m:=Instr.index t (a.eval x) (a.eval i)) hr (by simp only [execOp,ho]) h fun hg=>yclq ht hd (ycv hv hx) (ycv hv hi) hg
     .rename_i n e hd
      split at hc
      .rename_i xe hxe
       simp only [qa] at hc
       subst hc
       exact yeh (m:=Instr.index t (a.eval x) (a.eval i)) hr (by simp only [execOp,ho]) h fun hg=>yclp ht hd hxe (ycv hv hx) (ycv hv hi) hg
      .cases hc
     .cases hc
    .cases hc
  case extract x i=>
    split at hc
    .rename_i X hx
     simp only [qa] at hc
     subst hc
     exact yeh (m:=Instr.extract (a.eval x) i) hr (by simp only [execOp,ho]) h fun hg=>ycll (ycv hv hx) hg
    .cases hc
  case call cc=>
    obtain ⟨callee,args,ts⟩:=cc
    simp only at hc
    split at hc
    .rename_i as has
     split at hc
     .rename_i b
      exact yash hr hv ho has hc h
     .simp only [qa] at hc
      subst hc
      simp [yqd] at hn
     .split at hc
      .simp only [qa] at hc
       subst hc
       simp [yqd] at hn
      .cases hc
     .cases hc
    .cases hc
  all_goals (cases hc)
end
theorem yne:∀ {l:List Nat} {t j:Nat},pos l t=some j->l[j]? = some t
  | [],t,j,h=>by simp at h
  | x :: r,t,j,h=>by
    rw [yyv] at h
    split at h
    .rename_i hx
     obtain rfl:=qd h
     simp [hx]
    .cases hp:pos r t with
     | none=>simp [hp] at h
     | some k=>
       simp only [hp,kb,qa] at h
       subst h
       simpa using yne hp
theorem ytw:∀ {l:List Nat} {t j:Nat},l.Nodup->l[j]? = some t->pos l t=some j
  | [],t,j,_,h=>by simp at h
  | x :: r,t,j,hn,h=>by
    rw [yyv]
    rw [List.nodup_cons] at hn
    cases j with
    | zero=>simp at h; simp [h]
    | succ j=>
      simp only [je] at h
      have hne:x≠t:=fun e=>hn.1 (e ▸ wa h)
      rw [qc hne,ytw hn.2 h]
      rfl
theorem yamv{l:List Nat}{i i' j:Nat}(h:pos l i=some j)(h':pos l i' = some j):i=i':=by
  have h1:=yne h
  have h2:=yne h'
  rw [h1] at h2
  exact qd h2
theorem yakg{l:List Nat}{i j:Nat}(h:pos l i=some j):j < l.length:=by
  have h1:=yne h
  rcases qz j l.length with h2 | h2
  .exact h2
  .rw [qm h2] at h1; cases h1
def Inj(f:Nat->Option Nat):Prop:=∀ i i' j,f i=some j->f i' = some j->i=i'
theorem yoh{f:Nat->Option Nat}(hf:Inj f):∀ {H:yr} {j:Nat} {o':Ob},lk (ycy f H) j=some o'->∃ i o,lk H i=some o/\f i=some j/\o' = ysl f o
  | [],j,o',h=>by simp [ycy] at h
  | (i0,o0) :: r,j,o',h=>by
    simp only [ycy] at h
    split at h
    .rename_i j0 hj0
     rw [ybx] at h
     split at h
     .rename_i he
      subst he
      exact ⟨i0,o0,by simp,hj0,(qd h).symm⟩
     .rename_i hne
      obtain ⟨i,o,h1,h2,h3⟩:=yoh hf h
      refine ⟨i,o,?_,h2,h3⟩
      rw [ybx,qc]
      .exact h1
      .intro e
       subst e
       rw [hj0] at h2
       exact hne (qd h2)
    .rename_i hj0
     obtain ⟨i,o,h1,h2,h3⟩:=yoh hf h
     refine ⟨i,o,?_,h2,h3⟩
     rw [ybx,qc]
     .exact h1
     .intro e
      subst e
      rw [hj0] at h2
      cases h2
theorem yaof{α:Type}:∀ {l l':List (Nat × α)} {k:Nat} {o:α},lk (l++l') k=some o->lk l k=some o\/lk l' k=some o
  | [],l',k,o,h=>.inr h
  | (i,x) :: r,l',k,o,h=>by
    rw [jn,ybx] at h
    rw [ybx]
    split at h
    .rename_i he
     rw [qe he]
     exact .inl h
    .rename_i he
     rw [qc he]
     exact yaof h
theorem yajx:∀ {l:List Nat} {H:yr} {k:Nat} {o:Ob},lk (yem H l) k=some o->lk H k=some o/\k∉l
  | [],H,k,o,h=>⟨h,by simp⟩
  | i :: r,H,k,o,h=>by
    simp only [yem] at h
    obtain ⟨h1,h2⟩:=yajx h
    rw [yjl] at h1
    split at h1
    .cases h1
    .rename_i hne
     exact ⟨h1,by simp [hne,h2]⟩
theorem yafb(f:Nat->Option Nat):∀ r:List AV,(yjb f r).length=r.length
  | []=>rfl
  | _ :: r=>by simp only [yjb,ws]; rw [yafb f r]
theorem yawz{w:World}{U U':Nat->Nat->Prop}{O Z:Rho}{f:Nat->Option Nat}(hf:∀ id j x,f id=some j->O id=some x->Z j=some x)(hU:∀ b o,U' b o->U b o){es:Nat}{rows:List (List AV)}{C:List Value}(h:AXs w U O es rows C):AXs w U' Z es (rows.map (yjb f)) C:=
  ywu fun i r hi=>by
   rw [jw] at hi
   cases hr:rows[i]? with
   | none=>rw [hr] at hi; cases hi
   | some r0=>
     rw [hr] at hi
     obtain rfl:=qd hi
     obtain ⟨g1,g2,g3,g4⟩:=ylp h hr
     exact ⟨by rw [← g1]; exact yafb f r0,g2,ydp (ydo.less hU) _ _ Z Z (Ext.refl _) (ynz hf r0 _ g3),g4⟩
theorem yavu{f:Nat->Option Nat}{es o:Nat}{ob:Ob}:yjc es o (ysl f ob)↔yjc es o ob:=by
  cases ob <;> simp [ysl,yjc]
section
variable {w:World} {A A':Nat->Nat->Prop} {O Z:Rho} {H:yr} {nx n:Nat} {f:Nat->Option Nat}
theorem ycdi{U U':Nat->Nat->Prop}(hf:∀ i j,f i=some j->Z j=O i)(hU:∀ b o,U' b o->U b o){b es:Nat}{o:Ob}(h:ObR w U O b es o):ObR w U' Z b es (ysl f o):=by
  cases o with
  | box cells=>
    obtain ⟨C,e,fr,h1,h2,h3⟩:=h
    refine ⟨C,e,fr,h1,h2,?_⟩
    have:=ynz (f:=f) (Z:=Z) (fun id j x hj hx=>by rw [hf _ _ hj]; exact hx) cells _ h3
    exact ydp (ydo.less hU) _ _ Z Z (Ext.refl _) this
  | arr es' rows leak=>
    obtain ⟨h0,h0',C,e,fr,h1,h2,h3⟩:=h
    exact ⟨h0,h0',C,e,fr,h1,h2,yhu (ydo.less hU) h3⟩
  | arx es' rows=>
    obtain ⟨h0,h0',C,e,fr,h1,h2,h3⟩:=h
    exact ⟨h0,h0',C,e,fr,h1,h2,yawz (fun id j x hj hx=>by rw [hf _ _ hj]; exact hx) hU h3⟩
theorem yaqt(hi:Inj f)(hf:∀ i j,f i=some j->Z j=O i){b o:Nat}(h:Wr Z (ycy f H) b o):∃ i j es ob,lk H i=some ob/\f i=some j/\O i=some (b,es)/\yjc es o ob:=by
  obtain ⟨j,es,ob,h1,h2,h3⟩:=h
  obtain ⟨i,o',h4,h5,rfl⟩:=yoh hi h1
  rw [hf _ _ h5] at h2
  exact ⟨i,j,es,o',h4,h5,h2,yavu.1 h3⟩
theorem yaxb(hr:Rep A O H nx w)(hi:Inj f)(hf:∀ i j,f i=some j->Z j=O i)(hn:∀ i j,f i=some j->j < n)(hR:∀ j x,Z j=some x->j < n)
    (hA:∀ b o,A' b o->b < w.heap.size) (hAU:∀ b o,A' b o->UU A O H b o) (hap:∀ i j o b es off,f i=some j->lk H i=some o->O i=some (b,es)->¬ A' b off) :
    Rep A' Z (ycy f H) n w/\∀ b o,UU A' Z (ycy f H) b o->UU A O H b o:=by
  have hU:∀ b o,UU A' Z (ycy f H) b o->UU A O H b o:=by
    rintro b o (h | h)
    .exact hAU b o h
    .obtain ⟨i,j,es,ob,h1,_,h2,h3⟩:=yaqt hi hf h
     exact .inr ⟨i,es,ob,h1,h2,h3⟩
  refine ⟨?_,hU⟩
  exact
    { ob:=fun j o b es h1 h2=>by
       obtain ⟨i,o',h3,h4,rfl⟩:=yoh hi h1
       rw [hf _ _ h4] at h2
       exact ycdi hf hU (hr.ob i o' b es h3 h2)
      inj:=fun j j' oj oj' b e e' h1 h2 h3 h4=>by
        obtain ⟨i,o,g1,g2,_⟩:=yoh hi h1
        obtain ⟨i',o',g3,g4,_⟩:=yoh hi h2
        rw [hf _ _ g2] at h3
        rw [hf _ _ g4] at h4
        have:=hr.inj i i' o o' b e e' g1 g3 h3 h4
        subst this
        rw [g2] at g4
        exact qd g4
      ltH:=fun j o h1=>by
        obtain ⟨i,o',_,h4,_⟩:=yoh hi h1
        exact hn _ _ h4
      ltR:=hR
      ltA:=hA
      apart:=fun j o b es off h1 h2=>by
        obtain ⟨i,o',h3,h4,rfl⟩:=yoh hi h1
        rw [hf _ _ h4] at h2
        exact hap i j o' b es off h4 h3 h2 }
end
theorem yml(H:yr):∀ (n:Nat) (todo:List AV) (acc:List Nat),acc.Nodup ->
    (yba H n todo acc).Nodup/\(∃ t,yba H n todo acc=acc++t)/\∀ id∈yba H n todo acc,id∈acc\/∃ o,lk H id=some o
  | 0,todo,acc,h=>by
    simp only [yba]
    exact ⟨h,⟨[],by simp⟩,fun id hi=>.inl hi⟩
  | n + 1,[],acc,h=>by
    simp only [yba]
    exact ⟨h,⟨[],by simp⟩,fun id hi=>.inl hi⟩
  | n + 1,v :: todo,acc,h=>by
    have step:∀ (id:Nat) (o:Ob) (todo':List AV),id∉acc->lk H id=some o ->
     (yba H n todo' (acc++[id])).Nodup/\(∃ t,yba H n todo' (acc++[id]) = acc++t)/\∀ i∈yba H n todo' (acc++[id]),i∈acc\/∃ o,lk H i=some o:=by
      intro id o todo' hid ho
      have hn:(acc++[id]).Nodup:=by
        rw [kj]
        refine ⟨h,by simp,fun a ha b hb=>?_⟩
        simp at hb
        subst hb
        exact fun e=>hid (e ▸ ha)
      obtain ⟨g1,⟨t,g2⟩,g3⟩:=yml H n todo' (acc++[id]) hn
      refine ⟨g1,⟨[id]++t,by rw [g2]; simp⟩,fun i hi=>?_⟩
      rcases g3 i hi with h4 | h4
      .rcases qt.1 h4 with h5 | h5
       .exact .inl h5
       .simp at h5; subst h5; exact .inr ⟨o,ho⟩
      .exact .inr h4
    have same:∀ todo',(yba H n todo' acc).Nodup/\(∃ t,yba H n todo' acc=acc++t)/\∀ id∈yba H n todo' acc,id∈acc\/∃ o,lk H id=some o:=
      fun todo'=>yml H n todo' acc h
    cases v <;> simp only [yba]
    case own es id off len ex=>
      split
      .exact same _
      .rename_i hid
       split
       .rename_i o ho; exact step id o _ hid ho
       .exact same _
    case eptr id i f=>
      split
      .exact same _
      .rename_i hid
       split
       .rename_i o ho; exact step id o _ hid ho
       .exact same _
    case ptr id off=>
      split
      .exact same _
      .rename_i hid
       split
       .rename_i cells ho; exact step id _ _ hid ho
       .rename_i o _ ho; exact step id o _ hid ho
       .exact same _
    all_goals exact same _
theorem ywo(H:yr)(m:Nat)(roots:List AV):(ybr H m roots).Nodup/\∀ j,j < m->pos (ybr H m roots) j=some j:=by
  obtain ⟨h1,⟨t,h2⟩,_⟩:=yml H yfk ((List.range m).flatMap (yui H)++roots) (List.range m) List.nodup_range
  refine ⟨h1,fun j hj=>ytw h1 ?_⟩
  unfold ybr
  rw [h2,jl (by simpa using hj),List.getElem?_range hj]
def yjt(l:List Nat)(O:Rho):Rho:=fun j=>match l[j]? with | some i=>O i | none=>none
theorem ykk{l:List Nat}{O:Rho}{i j:Nat}(h:pos l i=some j):yjt l O j=O i:=by
  simp [yjt,yne h]
theorem yauv{l:List Nat}{O:Rho}{j:Nat}{x:Nat × Nat}(h:yjt l O j=some x):j < l.length:=by
  unfold yjt at h
  rcases qz j l.length with h2 | h2
  .exact h2
  .rw [qm h2] at h; cases h
section
variable {w:World} {A:Nat->Nat->Prop} {O:Rho} {H:yr} {nx:Nat} {l:List Nat}
theorem yacp(hr:Rep A O H nx w):Rep A (yjt l O) (ycy (pos l) H) l.length w/\(∀ b o,UU A (yjt l O) (ycy (pos l) H) b o->UU A O H b o)/\Fr O H w (yjt l O) (ycy (pos l) H) w:=by
  have hi:Inj (pos l):=fun i i' j h h'=>yamv h h'
  obtain ⟨h1,h2⟩:=yaxb (A':=A) (Z:=yjt l O) (n:=l.length) hr hi (fun i j h=>ykk h) (fun i j h=>yakg h) (fun j x h=>yauv h) hr.ltA (fun b o h=>.inl h) (fun i j o b es off _ ho hρ=>hr.apart i o b es off ho hρ)
  refine ⟨h1,h2,?_⟩
  exact
    { size:=qk _
      os:=rfl
      tape:=rfl
      output:=rfl
      cells:=fun b C e fr hb=>⟨C,hb,rfl,fun _ _=>rfl⟩
      other:=fun b ob hb _=>hb
      shrink:=fun b o _ h=>by
        obtain ⟨i,j,es,ob,g1,_,g2,g3⟩:=yaqt hi (fun i j h=>ykk h) h
        exact ⟨i,es,ob,g1,g2,g3⟩ }
theorem yaqm(hr:Rep A O H nx w){v:AV}{x:Value}(h:VR w (UU A O H) O v x):VR w (UU A (yjt l O) (ycy (pos l) H)) (yjt l O) (ren (pos l) v) x:=by
  have h1:=yaqn (f:=pos l) (Z:=yjt l O) (fun id j y hj hy=>by rw [ykk hj]; exact hy) v x h
  exact ydw (ydo.less (yacp (l:=l) hr).2.1) _ _ _ _ (Ext.refl _) h1
theorem yalk{AB:Rho}{m n:Nat}(h:ygs AB m O n)(hm:∀ i x,AB i=some x->i < m)(hl:∀ j,j < m->pos l j=some j):ygs AB m (yjt l O) l.length where
  ext i x hx:=by
    rw [ykk (hl i (hm i x hx))]
    exact h.ext i x hx
  cl k hk h0:=by
   rw [ykk (hl k hk)]
   exact h.cl k hk h0
  le:=by
   rcases jf m with h0 | h0
   .omega
   .have:=yakg (hl (m - 1) (by omega))
    omega
end
theorem yatp{α:Type}:∀ (l l':List (Nat × α)) (t:Nat),lk (l++l') t=(lk l t).or (lk l' t)
  | [],l',t=>by simp
  | (k,v) :: r,l',t=>by
    simp only [jn,ybx]
    split
    .rfl
    .exact yatp r l' t
theorem yamj(H:yr):∀ (n t:Nat),lk (yhs H n) t=if t < n then lk H t else none
  | 0,t=>by simp [yhs]
  | n + 1,t=>by
    simp only [yhs]
    have ih:=yamj H n t
    cases hn:lk H n with
    | none=>
      simp only
      rw [ih]
      by_cases h:t < n
      .rw [qe h,qe (by omega)]
      .rw [qc h]
       by_cases h2:t=n
       .subst h2; simp [hn]
       .rw [qc (by omega)]
    | some o=>
      simp only
      rw [yatp,ih,ybx]
      by_cases h:t < n
      .have h1:t < n + 1:=by omega
       have h2:¬ n=t:=by omega
       simp only [h,h1,h2,wl,wn,yatr]
       cases lk H t <;> rfl
      .by_cases h2:t=n
       .subst h2; simp [hn]
       .have h1:¬ t < n + 1:=by omega
        have h3:¬ n=t:=by omega
        simp [h,h1,h3]
def Ret(A:Nat->Nat->Prop)(O:Rho)(H:yr)(w:World)(m:Nat)(r:AV)(H':yr)(n':Nat):Ending->World->Prop
  | .returned x,w'=>∃ Z,Rep A Z H' n' w'/\VR w' (UU A Z H') Z r x/\ygs O m Z n'/\Fr O H w Z H' w'
  | _,_=>False
def ycby(P:Program):Prop:=∀ {f es:Nat},yaav P f=some es->∀ {A:Nat->Nat->Prop} {O:Rho} {w:World} {s s':St} {v r:AV} {X:Value},Rep A O s.H s.nx w->VR w (UU A O s.H) O v X->yme es s v=some (r,s') ->
  (callFunc f #[X]).run P w = .ok (.enter f #[X]) w/\Calls P f #[X] w (fun e w'=>∃ x,e = .returned x/\ydt A O s w r s' x w')
structure yeb (P:Program) (cl:Callee):Prop where
  cln:ycby P
  fn:∀ {f args H m r},cl f args H m=some r->∃ fn,P.funcs[f]? = some fn/\(fn.name == "runtime.NumGoroutine") = false/\fn.body.isNone=false
  calls:∀ {f args H m r H' n'},cl f args H m=some (r,H',n')->∀ {A O w} {xs:Array Value},Rep A O H m w->VRs w (UU A O H) O args xs.toList->Calls P f xs w (Ret A O H w m r H' n')
def yccb(A:Nat->Nat->Prop)(O:Rho)(s:St)(w:World)(v:AV)(s':St):Ending->World->Prop
  | .returned x,w'=>ydt A O s w v s' x w'
  | _,_=>False
theorem yqw{P:Program}{w:World}{f:FuncId}{args:Array Value}{fn:Func}(hf:P.funcs[f]? = some fn)(hn:(fn.name == "runtime.NumGoroutine") = false)(hb:fn.body.isNone=false):(callFunc f args).run P w = .ok (.enter f args) w:=by
  have h1:fn.name ≠ "runtime.NumGoroutine":=by simpa using hn
  have h2:fn.body≠none:=by
    intro e
    rw [e] at hb
    cases hb
  simp [callFunc,hf,h1,h2]
section
variable {P:Program} {w:World} {A:Nat->Nat->Prop} {O:Rho} {s s':St} {v:AV} {c:Cfg} {cl:Callee}
theorem yces(hcl:yeb P cl)(hr:Rep A O s.H s.nx w){f:FuncId}{args:List AV}{xs:Array Value}(hx:VRs w (UU A O s.H) O args xs.toList){r:AV}{H1:yr}{n1:Nat}(h1:cl f (ydn s.H args) [] 0=some (r,H1,n1))(h:yql s args (frz H1 r) = some (v,s')) :
    Calls P f xs w (yccb A O s w v s'):=by
  let A':=UU A O (yeu s.H args)
  have hlk:=yla args s.H
  have hr1:Rep A O (yeu s.H args) s.nx w:=yre hr hlk
  have hrep:Rep A' ych [] 0 w:=yvn fun b o ha=>yapf hr1 ha
  have hxs:=ytv hr args s.H (yby.refl _) (yeu s.H args) (yby.refl _) _ hx
  have hU0:∀ b o,UU A' ych [] b o->A' b o:=by
    rintro b o (h | ⟨id,es,ob,h1,_⟩)
    .exact h
    .simp at h1
  refine Calls.mono (hcl.calls h1 hrep (ydp (ydo.less hU0) _ _ _ _ (Ext.refl _) hxs)) fun e w' he=>?_
  cases e with
  | returned x=>
    obtain ⟨Z,g1,g2,g3,g4⟩:=he
    have g5:=ywx g1 r H1 (yby.refl _) (ybv H1 r) (yby.refl _) x g2
    obtain ⟨q1,q2⟩:=yaam hr g4
    unfold yql at h
    split at h
    .rename_i hp
     simp only [qa,qi] at h
     obtain ⟨rfl,rfl⟩:=h
     exact ⟨rfl,rfl,O,q1,yaql _ _ hp g5,ygs.refl _ _,q2⟩
    .split at h
     .rename_i hp
      simp only [qa,qi] at h
      obtain ⟨rfl,rfl⟩:=h
      refine ⟨rfl,rfl,O,yre q1 hlk,?_,ygs.refl _ _,q2.trans (yhj fun b o=>yoa hlk)⟩
      have g6:=ydw (ydo.less (U':=A') fun b o ha=>.inl ha) _ _ _ _ (Ext.refl _) g5
      exact yalm _ _ hp g6
     .cases h
  | panicked chain=>exact he.elim
  | outgrown=>exact he.elim
theorem yoc{l:List Nat}{n1 nx j:Nat}(h:j < l.length):yge l l.length n1 nx j=l[j]?:=by simp [yge,h]
theorem yob{l:List Nat}{n1 nx j i:Nat}(h:¬ j < l.length)(hb:yge l l.length n1 nx j=some i):j < n1/\i=nx + (j - l.length):=by
  unfold yge at hb
  rw [qc h] at hb
  split at hb
  .rename_i h1
   exact ⟨h1,(qd hb).symm⟩
  .cases hb
theorem yaxx(hcl:yeb P cl){H0:yr}{nx:Nat}(hr:Rep A O H0 nx w){f:FuncId}{args:List AV}{xs:Array Value}(hx:VRs w (UU A O H0) O args xs.toList){l:List Nat}(hl:l.Nodup)(hlH:∀ id∈l,∃ o,lk H0 id=some o){r:AV}{H1:yr}{n1:Nat}
    (h1:cl f (yjb (pos l) args) (yhs (ycy (pos l) H0) l.length) l.length=some (r,H1,n1)) (q n':Nat) (hq:∀ t,q<=t->t < q + (n1 - l.length)->O t=none/\lk H0 t=none) (hqn:q + (n1 - l.length)<=n') (hmn:nx<=n') :
    Calls P f xs w (fun e w'=>∃ x AD,e = .returned x/\Rep A AD (ycy (yge l l.length n1 q) H1++yem H0 l) n' w'/\VR w' (UU A AD (ycy (yge l l.length n1 q) H1++yem H0 l)) AD (ren (yge l l.length n1 q) r) x/\Ext O AD /\
      (∀ k,O k=none->¬ (q<=k/\k < q + (n1 - l.length))->AD k=none)/\Fr O H0 w AD (ycy (yge l l.length n1 q) H1++yem H0 l) w'):=by
  let Hr:=yem H0 l
  let A':=UU A O Hr
  let back:=yge l l.length n1 q
  have hHr:∀ k o,lk Hr k=some o->lk H0 k=some o/\k∉l:=fun k o h=>yajx h
  have hWr:∀ b o,Wr O Hr b o->Wr O H0 b o:=fun b o h=>ymr (fun k o hk=>(hHr k o hk).1) h
  have hi:Inj (pos l):=fun i i' j h h'=>yamv h h'
  obtain ⟨e1,e2⟩:=yaxb (A':=A') (Z:=yjt l O) (n:=l.length) hr hi (fun i j h=>ykk h) (fun i j h=>yakg h) (fun j x h=>yauv h)
    (fun b o h=>yapf hr (h.imp_right (hWr b o))) (fun b o h=>h.imp_right (hWr b o)) (fun i j o b es off hp ho hρ=>by
      rintro (h | ⟨id,es',ob,g1,g2,_⟩)
      .exact hr.apart i o b es off ho hρ h
      .obtain ⟨g3,g4⟩:=hHr _ _ g1
       have:=hr.inj i id o ob b es es' ho g3 hρ g2
       subst this
       exact g4 (wa (yne hp)))
  have hargs:=ynz (f:=pos l) (Z:=yjt l O) (fun id j y hj hy=>by rw [ykk hj]; exact hy) args _ hx
  have hcan:∀ k o,lk (yhs (ycy (pos l) H0) l.length) k=some o->lk (ycy (pos l) H0) k=some o:=by
    intro k o hk
    rw [yamj] at hk
    split at hk
    .exact hk
    .cases hk
  have e1:=ynx e1 hcan
  have e2:∀ b o,UU A' (yjt l O) (yhs (ycy (pos l) H0) l.length) b o->UU A O H0 b o:=fun b o h=>e2 b o (h.imp_right (ymr hcan))
  refine Calls.mono (hcl.calls h1 e1 (ydp (ydo.less e2) _ _ _ _ (Ext.refl _) hargs)) fun e w' he=>?_
  cases e with
  | panicked chain=>exact he.elim
  | outgrown=>exact he.elim
  | returned x=>
    obtain ⟨Z,g1,g2,g3,g4⟩:=he
    let AD:Rho:=fun id=>match pos l id with | some j=>Z j | none=>if q<=id/\id < q + (n1 - l.length) then Z (l.length + (id - q)) else O id
    have hlnx:∀ id∈l,id < nx:=fun id hid=>by
      obtain ⟨o,ho⟩:=hlH id hid
      exact hr.ltH id o ho
    have hlq:∀ t,q<=t->t < q + (n1 - l.length)->pos l t=none:=fun t h1 h2=>by
      cases hp:pos l t with
      | none=>rfl
      | some u=>
        obtain ⟨o,ho⟩:=hlH t (wa (yne hp))
        rw [(hq t h1 h2).2] at ho
        cases ho
    have hback:∀ j i,back j=some i->AD i=Z j:=by
      intro j i hj
      by_cases hlt:j < l.length
      .have hj':l[j]? = some i:=by rw [← yoc hlt (n1:=n1) (nx:=q)]; exact hj
       simp only [AD,ytw hl hj']
      .obtain ⟨hj1,rfl⟩:=yob hlt hj
       simp only [AD,hlq (q + (j - l.length)) (by omega) (by omega)]
       rw [qe (by omega)]
       congr 1; omega
    have hext:Ext O AD:=by
      intro id y hy
      cases hp:pos l id with
      | none=>
        have:¬ (q<=id/\id < q + (n1 - l.length)):=fun hh=>by rw [(hq id hh.1 hh.2).1] at hy; cases hy
        simp only [AD,hp,qc this]; exact hy
      | some j=>
        simp only [AD,hp]
        exact g3.ext j y (by rw [ykk hp]; exact hy)
    have hlH':∀ t,q<=t->t < q + (n1 - l.length)->t∉l:=fun t h1 h2 hm=>by
      obtain ⟨o,ho⟩:=hlH t hm
      rw [(hq t h1 h2).2] at ho
      cases ho
    have hinj:Inj back:=by
      intro i i' j h h'
      by_cases hlt:i < l.length
      .have hi':l[i]? = some j:=by rw [← yoc hlt (n1:=n1) (nx:=q)]; exact h
       by_cases hlt':i' < l.length
       .have hi2:l[i']? = some j:=by rw [← yoc hlt' (n1:=n1) (nx:=q)]; exact h'
        have a1:=ytw hl hi'
        have a2:=ytw hl hi2
        rw [a1] at a2
        exact qd a2
       .obtain ⟨b1,rfl⟩:=yob hlt' h'
        exact absurd (wa hi') (hlH' _ (by omega) (by omega))
      .obtain ⟨b1,b2⟩:=yob hlt h
       by_cases hlt':i' < l.length
       .have hi2:l[i']? = some j:=by rw [← yoc hlt' (n1:=n1) (nx:=q)]; exact h'
        subst b2
        exact absurd (wa hi2) (hlH' _ (by omega) (by omega))
       .obtain ⟨b3,b4⟩:=yob hlt' h'
        omega
    let H2:=ycy back H1++Hr
    have hlk:∀ i o,lk H2 i=some o->(∃ j o',lk H1 j=some o'/\back j=some i/\o=ysl back o'/\AD i=Z j)\/(lk H0 i=some o/\i∉l/\i < nx/\AD i=O i/\lk Hr i=some o):=by
      intro i o h
      rcases yaof h with h | h
      .obtain ⟨j,o',a1,a2,a3⟩:=yoh hinj h
       exact .inl ⟨j,o',a1,a2,a3,hback j i a2⟩
      .obtain ⟨a1,a2⟩:=hHr i o h
       have a3:=hr.ltH i o a1
       refine .inr ⟨a1,a2,a3,?_,h⟩
       have hp:pos l i=none:=by
         cases hp:pos l i with
         | none=>rfl
         | some q=>exact absurd (wa (yne hp)) a2
       have:¬ (q<=i/\i < q + (n1 - l.length)):=fun hh=>by rw [(hq i hh.1 hh.2).2] at a1; cases a1
       simp only [AD,hp,qc this]
    have hW2:∀ b o,Wr AD H2 b o->Wr Z H1 b o\/Wr O Hr b o:=by
      rintro b o ⟨i,es,ob,a1,a2,a3⟩
      rcases hlk i ob a1 with ⟨j,o',b1,b2,rfl,b4⟩ | ⟨b1,b2,b3,b4,b5⟩
      .rw [b4] at a2
       exact .inl ⟨j,es,o',b1,a2,yavu.1 a3⟩
      .rw [b4] at a2
       exact .inr ⟨i,es,ob,b5,a2,a3⟩
    have hU2:∀ b o,UU A AD H2 b o->UU A' Z H1 b o:=by
      rintro b o (h | h)
      .exact .inl (.inl h)
      .rcases hW2 b o h with h | h
       .exact .inr h
       .exact .inl (.inr h)
    have hWc:∀ b o,Wr (yjt l O) (yhs (ycy (pos l) H0) l.length) b o->∃ i j es ob,lk H0 i=some ob/\pos l i=some j/\O i=some (b,es)/\yjc es o ob:=fun b o h=>yaqt hi (fun i j h=>ykk h) (ymr hcan h)
    have hfr:Fr O H0 w AD H2 w':=
      { size:=g4.size
        os:=g4.os
        tape:=g4.tape
        output:=g4.output
        cells:=fun b C e fr hb=>by
          obtain ⟨C',a1,a2,a3⟩:=g4.cells b C e fr hb
          refine ⟨C',a1,a2,fun o ho=>a3 o fun hw=>ho ?_⟩
          obtain ⟨i,j,es,ob,q1,_,q2,q3⟩:=hWc b o hw
          exact ⟨i,es,ob,q1,q2,q3⟩
        other:=g4.other
        shrink:=fun b o hb hw=>by
          rcases hW2 b o hw with h | h
          .obtain ⟨i,j,es,ob,q1,_,q2,q3⟩:=hWc b o (g4.shrink b o hb h)
           exact ⟨i,es,ob,q1,q2,q3⟩
          .exact hWr b o h }
    have hmix:∀ j o' b es,lk H1 j=some o'->Z j=some (b,es)->∀ i ob es',lk Hr i=some ob->O i=some (b,es')->False:=by
      intro j o' b es a1 a2 i ob es' a3 a4
      cases ob with
      | box cells=>exact g1.apart j o' b es 0 a1 a2 (.inr ⟨i,es',_,a3,a4,trivial⟩)
      | arr es2 rows leak=>exact g1.apart j o' b es (leak * es') a1 a2 (.inr ⟨i,es',_,a3,a4,qk _⟩)
      | arx es2 rows=>exact g1.apart j o' b es 0 a1 a2 (.inr ⟨i,es',_,a3,a4,trivial⟩)
    have hcl0:∀ k,O k=none->¬ (q<=k/\k < q + (n1 - l.length))->AD k=none:=by
      intro k hk hn
      cases hp:pos l k with
      | none=>simp only [AD,hp,qc hn]; exact hk
      | some j=>
        simp only [AD,hp]
        exact g3.cl j (yakg hp) (by rw [ykk hp]; exact hk)
    refine ⟨x,AD,rfl,?_,?_,hext,hcl0,hfr⟩
    .exact
       { ob:=fun i o b es a1 a2=>by
          rcases hlk i o a1 with ⟨j,o',b1,b2,rfl,b4⟩ | ⟨b1,b2,b3,b4,b5⟩
          .rw [b4] at a2
           have h6:=g1.ob j o' b es b1 a2
           cases o' with
           | box cells=>
             obtain ⟨C,e,fr,k1,k2,k3⟩:=h6
             refine ⟨C,e,fr,k1,k2,?_⟩
             have:=ynz (f:=back) (Z:=AD) (fun id j y hj hy=>by rw [hback id j hj]; exact hy) cells _ k3
             exact ydp (ydo.less hU2) _ _ _ _ (Ext.refl _) this
           | arr es' rows leak=>
             obtain ⟨k0,k0',C,e,fr,k1,k2,k3⟩:=h6
             exact ⟨k0,k0',C,e,fr,k1,k2,yhu (ydo.less hU2) k3⟩
           | arx es' rows=>
             obtain ⟨k0,k0',C,e,fr,k1,k2,k3⟩:=h6
             exact ⟨k0,k0',C,e,fr,k1,k2,yawz (fun id j y hj hy=>by rw [hback id j hj]; exact hy) hU2 k3⟩
          .rw [b4] at a2
           have h6:=hr.ob i o b es b1 a2
           refine ygd hfr.stay hext ?_ h6
           have hn:∀ off,¬ Wr (yjt l O) (yhs (ycy (pos l) H0) l.length) b off:=by
             intro off hw
             obtain ⟨i2,j,es2,ob,q1,q2,q3,_⟩:=hWc b off hw
             have:=hr.inj i i2 o ob b es es2 b1 q1 a2 q3
             subst this
             exact b2 (wa (yne q2))
           cases o with
           | box cells=>obtain ⟨C,e,fr,h7,_⟩:=h6; exact yph g4 h7 hn
           | arr es' rows leak=>obtain ⟨_,_,C,e,fr,h7,_⟩:=h6; exact yph g4 h7 hn
           | arx es' rows=>obtain ⟨_,_,C,e,fr,h7,_⟩:=h6; exact yph g4 h7 hn
         inj:=fun i i' oi oi' b ei ei' a1 a2 a3 a4=>by
           rcases hlk i oi a1 with ⟨j,o',b1,b2,rfl,b4⟩ | ⟨b1,b2,b3,b4,b5⟩ <;> rcases hlk i' oi' a2 with ⟨j',o2,c1,c2,rfl,c4⟩ | ⟨c1,c2,c3,c4,c5⟩
           .rw [b4] at a3
            rw [c4] at a4
            have:=g1.inj j j' o' o2 b ei ei' b1 c1 a3 a4
            subst this
            exact qd (b2.symm.trans c2)
           .rw [b4] at a3
            rw [c4] at a4
            exact (hmix j o' b ei b1 a3 i' oi' ei' c5 a4).elim
           .rw [b4] at a3
            rw [c4] at a4
            exact (hmix j' o2 b ei' c1 a4 i oi ei b5 a3).elim
           .rw [b4] at a3
            rw [c4] at a4
            exact hr.inj i i' oi oi' b ei ei' b1 c1 a3 a4
         ltH:=fun i o a1=>by
           rcases hlk i o a1 with ⟨j,o',b1,b2,rfl,b4⟩ | ⟨b1,b2,b3,b4,b5⟩
           .have hj1:=g1.ltH j o' b1
            by_cases hlt:j < l.length
            .have hj':l[j]? = some i:=by rw [← yoc hlt (n1:=n1) (nx:=q)]; exact b2
             have:=hlnx i (wa hj')
             omega
            .obtain ⟨b5,b6⟩:=yob hlt b2
             omega
           .omega
         ltR:=fun i x hx=>by
           simp only [AD] at hx
           split at hx
           .rename_i j hp
            have:=hlnx i (wa (yne hp))
            omega
           .split at hx
            .omega
            .have:=hr.ltR i x hx
             omega
         ltA:=fun b o ha=>ji (hr.ltA b o ha) g4.size
         apart:=fun i o b es off a1 a2=>by
           rcases hlk i o a1 with ⟨j,o',b1,b2,rfl,b4⟩ | ⟨b1,b2,b3,b4,b5⟩
           .rw [b4] at a2
            exact fun ha=>g1.apart j o' b es off b1 a2 (.inl ha)
           .rw [b4] at a2
            exact hr.apart i o b es off b1 a2 }
    .have:=yaqn (f:=back) (Z:=AD) (fun id j y hj hy=>by rw [hback id j hj]; exact hy) r x g2
     exact ydw (ydo.less hU2) _ _ _ _ (Ext.refl _) this
theorem ycaw(hcl:yeb P cl)(hr:Rep A O s.H s.nx w){f:FuncId}{args:List AV}{xs:Array Value}(hx:VRs w (UU A O s.H) O args xs.toList)(h:yfi c cl s f args=some (v,s')) :
    (callFunc f xs).run P w = .ok (.enter f xs) w/\Calls P f xs w (yccb A O s w v s'):=by
  unfold yfi at h
  split at h
  .split at h
   .rename_i r H1 n1 h1
    obtain ⟨fn,k1,k2,k3⟩:=hcl.fn h1
    exact ⟨yqw k1 k2 k3,yces hcl hr hx h1 h⟩
   .cases h
  .simp only at h
   split at h
   .rename_i r H1 n1 h1
    obtain ⟨fn,k1,k2,k3⟩:=hcl.fn h1
    simp only [qa,qi] at h
    obtain ⟨rfl,rfl⟩:=h
    obtain ⟨q1,_,q3⟩:=yml s.H yfk args [] List.nodup_nil
    refine ⟨yqw k1 k2 k3,Calls.mono (yaxx hcl hr hx q1 (fun id hid=>?_) h1 s.nx (s.nx + (n1 - (yba s.H yfk args []).length)) (fun t h1 h2=>?_) (qk _) (kc _ _)) fun e w' hp=>?_⟩
    .rcases q3 id hid with h | h
     .simp at h
     .exact h
    .refine ⟨?_,?_⟩
     .cases hh:O t with
      | none=>rfl
      | some x=>have:=hr.ltR t x hh; omega
     .cases hh:lk s.H t with
      | none=>rfl
      | some o=>have:=hr.ltH t o hh; omega
    .obtain ⟨x,AD,rfl,p1,p2,p3,p4,p5⟩:=hp
     exact ⟨rfl,rfl,AD,p1,p2,⟨p3,fun k hk h0=>p4 k h0 (by omega),kc _ _⟩,p5⟩
   .cases h
theorem yanz(hcl:yeb P cl){o:Oper}{a:Act}(hr:Rep A O s.H s.nx w){f:FuncId}{args:List AV}{xs:Array Value}(he:(execOp a.eval o).run P w=(callFunc f xs).run P w)(hx:VRs w (UU A O s.H) O args xs.toList)(h:yfi c cl s f args=some (v,s')):ywj P A O s w v s' o a:=by
  intro K Q hK
  obtain ⟨h1,h2⟩:=ycaw hcl hr hx h
  unfold Oper.wp
  rw [he,h1,Oper.upon_enter]
  refine Calls.mono h2 fun e w' hp=>?_
  cases e with
  | returned x=>exact hK x w' hp
  | panicked chain=>exact hp.elim
  | outgrown=>exact hp.elim
theorem yaie{o:Oper}{ip:IP}(hc:ykx P o.op=some ip)(hn:¬ yqd ip=false):∃ callee args ts as,o.op = .call ⟨callee,args,ts⟩/\yqr args.toList=some as/\((∃ f,callee = .value (.func f)/\ip = .call f as)\/∃ x g,callee = .value x/\opd x=some g/\ip = .callv g as):=by
  cases ho:o.op <;> simp only [ho,ykx] at hc
  case call cc=>
    obtain ⟨callee,args,ts⟩:=cc
    simp only at hc
    split at hc
    .rename_i as has
     split at hc
     .rename_i b
      exfalso
      unfold yki at hc
      apply hn
      repeat' split at hc
      all_goals first
        | (cases hc; done)
        | (simp only [qa] at hc; subst hc; rfl)
     .rename_i f
      simp only [qa] at hc
      exact ⟨_,args,ts,as,rfl,has,.inl ⟨f,rfl,hc.symm⟩⟩
     .rename_i x _
      split at hc
      .rename_i g hg
       simp only [qa] at hc
       exact ⟨_,args,ts,as,rfl,has,.inr ⟨x,g,rfl,hg,hc.symm⟩⟩
      .cases hc
     .cases hc
    .cases hc
  case makeFunc f pre post=>
    exfalso
    apply hn
    cases f with
    | func f=>
      simp only at hc
      split at hc
      .simp only [qa] at hc
       subst hc
       rfl
      .cases hc
    | _=>simp at hc
  all_goals
    exfalso
    apply hn
    (try simp only [ypq,ynj] at hc)
    repeat' split at hc
    all_goals first
      | (cases hc; done)
      | (simp only [qa] at hc; subst hc; rfl)
theorem ydiy(hcl:yeb P cl){o:Oper}{a:Act}{ip:IP}(hr:Rep A O s.H s.nx w)(hv:ynh w (UU A O s.H) O s a)(hc:ykx P o.op=some ip)(h:ybi c cl s ip=some (v,s')):ywj P A O s w v s' o a:=by
  by_cases hn:yqd ip=false
  .exact ybcw hr hv hc hn h
  .have key:=yaie hc hn
   obtain ⟨callee,args,ts,as,ho,has,hcase⟩:=key
   have hvs:=yrf hv has
   rw [← yun] at hvs
   rcases hcase with ⟨f,rfl,rfl⟩ | ⟨x,g,rfl,hg,rfl⟩
   .simp only [ybi] at h
    refine yanz hcl (xs:=args.map a.eval) hr ?_ hvs h
    simp only [execOp,ho,resolve,Act.eval,Deferred.ofValue,invoke,Sem.run_bind,Sem.run_pure,Result.andThen_ok]
    simp
   .simp only [ybi] at h
    have hgv:=ycv hv hg
    unfold ypp at h
    split at h
    .rename_i f pre post heq
     rw [heq] at hgv
     simp only [VR] at hgv
     obtain ⟨ps,qs,h1,h2,h3⟩:=hgv
     refine yanz hcl (xs:=ps++args.map a.eval++qs) hr ?_ ?_ h
     .simp only [execOp,ho,resolve,h1,Deferred.ofValue,invoke,Sem.run_bind,Sem.run_pure,Result.andThen_ok]
     .simp only [Array.toList_append,jr]
      exact yny h2 (yny hvs h3)
    .cases h
theorem ybvg{o:Oper}{a:Act}{ip:IP}(hv:ynh w (UU A O s.H) O s a)(hc:ykx P o.op=some ip){fn:Nat}{L:List AV}
    (hip:(∃ as,ip = .call fn as/\L=s.evs as)\/∃ g as pre post,ip = .callv g as/\s.ev g = .fn (.func fn) pre post/\L=pre++(s.evs as++post)):∃ xs:Array Value,(execOp a.eval o).run P w=(callFunc fn xs).run P w/\VRs w (UU A O s.H) O L xs.toList:=by
  have hn:¬ yqd ip=false:=by
    rcases hip with ⟨as,rfl,_⟩ | ⟨g,as,pre,post,rfl,_⟩ <;> simp [yqd]
  obtain ⟨callee,args,ts,as,ho,has,hcase⟩:=yaie hc hn
  have hvs:=yrf hv has
  rw [← yun] at hvs
  rcases hcase with ⟨f,rfl,rfl⟩ | ⟨x,g,rfl,hg,rfl⟩
  .rcases hip with ⟨as',h1,rfl⟩ | ⟨g,as',pre,post,h1,_⟩
   .simp only [IP.call.injEq] at h1
    obtain ⟨rfl,rfl⟩:=h1
    refine ⟨args.map a.eval,?_,hvs⟩
    simp only [execOp,ho,resolve,Act.eval,Deferred.ofValue,invoke,Sem.run_bind,Sem.run_pure,Result.andThen_ok]
    simp
   .cases h1
  .rcases hip with ⟨as',h1,rfl⟩ | ⟨g',as',pre,post,h1,h2,rfl⟩
   .cases h1
   .simp only [IP.callv.injEq] at h1
    obtain ⟨rfl,rfl⟩:=h1
    have hgv:=ycv hv hg
    rw [h2] at hgv
    simp only [VR] at hgv
    obtain ⟨ps,qs,k1,k2,k3⟩:=hgv
    refine ⟨ps++args.map a.eval++qs,?_,?_⟩
    .simp only [execOp,ho,resolve,k1,Deferred.ofValue,invoke,Sem.run_bind,Sem.run_pure,Result.andThen_ok]
    .simp only [Array.toList_append,jr]
     exact yny k2 (yny hvs k3)
theorem yaax{o:Op}{ip:IP}(h:yalp P o=some ip):∃ f args ts x X es,o = .call ⟨.value (.func f),args,ts⟩/\args.toList = [x]/\yaav P f=some es/\opd x=some X/\ip = .cln es X:=by
  unfold yalp at h
  split at h
  .rename_i f args ts
   split at h
   .rename_i x hx
    split at h
    .rename_i es X h1 h2
     simp only [qa] at h
     exact ⟨f,args,ts,x,X,es,rfl,hx,h1,h2,h.symm⟩
    .cases h
   .cases h
  .cases h
theorem ycdk{H:yr}{nx:Nat}(hr:Rep A O H nx w){id es:Nat}{rows:List (List AV)}(hid:lk H id=some (.arr es rows 0)){H':yr}(hH:∀ k,lk H' k=if k=id then some (.arx es rows) else lk H k):Rep A O H' nx w/\Fr O H w O H' w:=by
  have old:∀ k o,lk H' k=some o->∃ o',lk H k=some o':=fun k o hk=>by
    rw [hH] at hk
    by_cases hi:k=id
    .subst hi; exact ⟨_,hid⟩
    .rw [qc hi] at hk; exact ⟨o,hk⟩
  have hw:∀ b o,Wr O H' b o->Wr O H b o:=by
    rintro b' o ⟨id',es',o',g1,g2,g3⟩
    rw [hH] at g1
    by_cases hi:id' = id
    .subst hi
     exact ⟨id',es',_,hid,g2,by simp [yjc]⟩
    .rw [qc hi] at g1
     exact ⟨id',es',o',g1,g2,g3⟩
  have hs:ydo w (UU A O H) w (UU A O H'):=ydo.less fun b o hu=>hu.imp_right (hw b o)
  refine ⟨?_,yhj hw⟩
  exact
    { ob:=fun i o b' es' g1 g2=>by
       rw [hH] at g1
       by_cases hi:i=id
       .subst hi
        rw [qe rfl] at g1
        obtain rfl:=qd g1
        obtain ⟨q1,q2,C,e,fr,q3,q4,q5⟩:=hr.ob i _ b' es' hid g2
        exact ⟨q1,q2,C,e,fr,q3,q4,ybjb O (yhu hs q5)⟩
       .rw [qc hi] at g1
        exact ygd hs (Ext.refl _) rfl (hr.ob i o b' es' g1 g2)
      inj:=fun i j oi oj b' ei ej g1 g2 g3 g4=>by
        obtain ⟨o1,g5⟩:=old i oi g1
        obtain ⟨o2,g6⟩:=old j oj g2
        exact hr.inj i j o1 o2 b' ei ej g5 g6 g3 g4
      ltH:=fun i o g1=>by
        obtain ⟨o1,g5⟩:=old i o g1
        exact hr.ltH i o1 g5
      ltR:=hr.ltR
      ltA:=hr.ltA
      apart:=fun i o b' es' off g1 g2=>by
        obtain ⟨o1,g5⟩:=old i o g1
        exact hr.apart i o1 b' es' off g5 g2 }
theorem ybcc{ax es:Nat}{s:St}{x r:AV}{s':St}(h:yxz ax es s x=some (r,s')):yme es s x=some (r,s')\/∃ rows,yme es s x=some (r,s.add (.arr es rows 0))/\s' = s.add (.arx es rows):=by
  unfold yxz at h
  split at h
  .exact .inl h
  .cases hb:Nat.beq es _ <;> rw [hb] at h
   .exact .inl h
   .simp only [cond_true,clnY] at h
    split at h
    .rename_i rows hrows
     split at h
     .rename_i hl
      simp only [qa,qi] at h
      obtain ⟨rfl,rfl⟩:=h
      have h0:yme es s x=some (.own es s.nx 0 rows.length false,s.add (.arr es rows 0)):=by
        simp only [yme,hrows,ycu,qe hl]
      cases he:rows.isEmpty with
      | true=>exact .inl h0
      | false=>exact .inr ⟨rows,h0,rfl⟩
     .cases h
    .cases h
theorem yarh{ax es:Nat}{s:St}{x r:AV}{s':St}(h:yxz ax es s x=some (r,s')):∃ rows ob,yei es s.H x=some rows/\(∀ s1:St,yei es s1.H x=some rows->yxz ax es s1 x=some (.own es s1.nx 0 rows.length false,s1.add ob))/\(r = .own es s.nx 0 rows.length false/\s' = s.add ob):=by
  have plain:∀ {r s'},yme es s x=some (r,s')->∃ rows,yei es s.H x=some rows/\(∀ s1:St,yei es s1.H x=some rows->yme es s1 x=some (.own es s1.nx 0 rows.length false,s1.add (.arr es rows 0)))/\(r = .own es s.nx 0 rows.length false/\s' = s.add (.arr es rows 0)):=by
    intro r s' h
    unfold yme at h
    split at h
    .rename_i rows hrows
     unfold ycu at h
     split at h
     .rename_i hl
      simp only [qa,qi] at h
      obtain ⟨rfl,rfl⟩:=h
      exact ⟨rows,hrows,fun s1 h1=>by simp only [yme,h1,ycu,qe hl],rfl,rfl⟩
     .cases h
    .cases h
  unfold yxz at h
  split at h
  .obtain ⟨rows,h1,h2,h3⟩:=plain h
   exact ⟨rows,_,h1,fun s1 q=>h2 s1 q,h3⟩
  .rename_i k
   cases hb:Nat.beq es (k + 1) <;> rw [hb] at h
   .obtain ⟨rows,h1,h2,h3⟩:=plain h
    exact ⟨rows,_,h1,fun s1 q=>by simp only [yxz,hb,cond_false]; exact h2 s1 q,h3⟩
   .simp only [cond_true,clnY] at h
    split at h
    .rename_i rows hrows
     split at h
     .rename_i hl
      simp only [qa,qi] at h
      obtain ⟨rfl,rfl⟩:=h
      exact ⟨rows,_,hrows,fun s1 q=>by simp only [yxz,hb,cond_true,clnY,q,qe hl],rfl,rfl⟩
     .cases h
    .cases h
theorem ybtu{es:Nat}{rows:List (List AV)}{r:AV}{x:Value}{w':World}(h:ydt A O s w r (s.add (.arr es rows 0)) x w'):ydt A O s w r (s.add (.arx es rows)) x w':=by
  obtain ⟨h1,h2,Z,h3,h4,h5,h6⟩:=h
  obtain ⟨g1,g2⟩:=ycdk (id:=s.nx) (es:=es) (rows:=rows) h3 (by show lk ((s.nx,Ob.arr es rows 0) :: s.H) s.nx=_; rw [ybx,qe rfl]) (H':=(s.add (.arx es rows)).H) (fun k=>by
    simp only [St.add,ybx]
    by_cases hk:s.nx=k
    .subst hk; simp
    .rw [qc hk,qc (fun e=>hk e.symm),qc hk])
  exact ⟨h1,h2,Z,g1,yacs g2 (Ext.refl _) h4,h5,h6.trans g2⟩
theorem ybkq{o:Op}{ip:IP}(hc:comp P o=some ip)(hn:yqd ip=true):ykx P o=some ip:=by
  unfold comp at hc
  split at hc
  .rename_i ip' hq
   obtain ⟨f,args,ts,x,X,es,_,_,_,_,rfl⟩:=yaax hq
   simp only [qa] at hc
   subst hc
   simp [yqd] at hn
  .split at hc
   .rename_i hq
    simp only [qa] at hc
    subst hc
    exact hq
   .simp only [qa] at hc
    subst hc
    simp [yqd] at hn
theorem yur(hcl:yeb P cl){o:Oper}{a:Act}{ip:IP}(hr:Rep A O s.H s.nx w)(hv:ynh w (UU A O s.H) O s a)(hc:comp P o.op=some ip)(h:ybi c cl s ip=some (v,s')):ywj P A O s w v s' o a:=by
  unfold comp at hc
  split at hc
  .rename_i ip' hq
   simp only [qa] at hc
   subst hc
   obtain ⟨f,args,ts,x,X,es,ho,hx,h1,h2,rfl⟩:=yaax hq
   simp only [ybi] at h
   obtain ⟨k1,k2⟩:(callFunc f #[a.eval x]).run P w = .ok (.enter f #[a.eval x]) w/\Calls P f #[a.eval x] w (fun e w'=>∃ x,e = .returned x/\ydt A O s w v s' x w'):=by
     rcases ybcc h with h0 | ⟨rows,h0,hs⟩
     .exact hcl.cln h1 hr (ycv hv h2) h0
     .obtain ⟨k1,k2⟩:=hcl.cln h1 hr (ycv hv h2) h0
      subst hs
      exact ⟨k1,Calls.mono k2 fun e w' he=>by
        obtain ⟨x,rfl,he⟩:=he
        exact ⟨x,rfl,ybtu he⟩⟩
   have hargs:args.map a.eval = #[a.eval x]:=by
     apply Array.ext'
     simp [hx]
   have he:(execOp a.eval o).run P w=(callFunc f #[a.eval x]).run P w:=by
     rw [← hargs]
     simp only [execOp,ho,resolve,Act.eval,Deferred.ofValue,invoke,Sem.run_bind,Sem.run_pure,Result.andThen_ok]
     simp
   intro K Q hK
   unfold Oper.wp
   rw [he,k1,Oper.upon_enter]
   refine Calls.mono k2 fun e w' hp=>?_
   obtain ⟨x',rfl,hp⟩:=hp
   exact hK x' w' hp
  .split at hc
   .rename_i hq
    simp only [qa] at hc
    subst hc
    exact ydiy hcl hr hv hq h
   .simp only [qa] at hc
    subst hc
    simp only [ybi] at h
    cases h
end
def yko(s:St):Prop:=∀ t x,lk s.env t=some x->lk s.loc t=none
structure Entry where
  O:Rho
  H:yr
  w:World
  m:Nat
structure SR (A:Nat->Nat->Prop) (E:Entry) (nt:Nat) (s:St) (a:Act) (w:World):Prop where
  disj:yko s
  size:a.tmps.size=nt
  defers:a.defers = []
  ex:∃ O,Rep A O s.H s.nx w/\ynh w (UU A O s.H) O s a/\ygs E.O E.m O s.nx/\Fr E.O E.H E.w O s.H w
theorem ykq(s:St)(t:Nat):s.get t=(lk s.loc t).getD ((lk s.env t).getD .bad):=by
  obtain ⟨e,l,H,n⟩:=s
  exact yasf e l H n t
theorem ybyy{s:St}(hd:yko s)(d:Nat)(v:AV):(∀ t,(s.put d v).get t=if t=d then v else s.get t)/\yko (s.put d v)/\(s.put d v).H=s.H/\(s.put d v).nx=s.nx:=by
  obtain ⟨e,l,H,n⟩:=s
  rw [yaug]
  cases hu:upd e d v with
  | some e'=>
    rw [yaci]
    have hle:=yey hu
    have hed:∃ x,lk e d=some x:=by
      cases h:lk e d with
      | some x=>exact ⟨x,rfl⟩
      | none=>
        exfalso
        have:∀ (e e':List (Nat × AV)),upd e d v=some e'->lk e d=none->False:=by
          intro e
          induction e with
          | nil=>intro e' h; simp at h
          | cons p r ih=>
            obtain ⟨k,y⟩:=p
            intro e' h h2
            rw [yvl] at h
            rw [ybx] at h2
            split at h2
            .cases h2
            .rename_i hk
             rw [qc hk] at h
             cases hr:upd r d v with
             | none=>simp [hr] at h
             | some r'=>exact ih r' hr h2
        exact this e e' hu h
    obtain ⟨x,hx⟩:=hed
    have hl:lk l d=none:=hd d x hx
    refine ⟨fun t=>?_,fun t y hy=>?_,rfl,rfl⟩
    .rw [ykq,ykq]
     simp only [hle]
     by_cases ht:t=d
     .subst ht
      rw [qe rfl,qe rfl,hl]
      rfl
     .rw [qc ht,qc ht]
    .simp only [hle] at hy
     by_cases ht:t=d
     .subst ht; exact hl
     .rw [qc ht] at hy
      exact hd t y hy
  | none=>
    rw [yach]
    have hed:lk e d=none:=by
      cases h:lk e d with
      | none=>rfl
      | some x=>
        obtain ⟨e',he⟩:=ymp (x:=v) h
        rw [he] at hu
        cases hu
    refine ⟨fun t=>?_,fun t y hy=>?_,rfl,rfl⟩
    .rw [ykq,ykq]
     simp only [ybx]
     by_cases ht:d=t
     .subst ht; simp
     .have:¬ t=d:=fun e=>ht e.symm
      simp [ht,this]
    .simp only [ybx]
     rw [qc]
     .exact hd t y hy
     .intro e
      subst e
      simp only at hy
      rw [hed] at hy
      cases hy
theorem yabt{s:St}(hd:yko s)(d:Option Nat)(v:AV):(∀ t,(s.putO d v).get t=if d=some t then v else s.get t)/\yko (s.putO d v)/\(s.putO d v).H=s.H/\(s.putO d v).nx=s.nx:=by
  cases d with
  | none=>exact ⟨fun t=>by simp [yabr],hd,rfl,rfl⟩
  | some d=>
    obtain ⟨h1,h2,h3,h4⟩:=ybyy hd d v
    refine ⟨fun t=>?_,h2,h3,h4⟩
    rw [yabs,h1]
    by_cases ht:t=d
    .subst ht; simp
    .have:¬ (some d:Option Nat) = some t:=fun e=>ht (qd e).symm
     simp [ht,this]
theorem yna{a:Act}{nt:Nat}(hs:a.tmps.size=nt){d:Option Nat}(hd:ypa nt d=true)(x:Value):(∀ t,(a.put d x).tmps.getD t undef=if d=some t then x else a.tmps.getD t undef)/\(a.put d x).tmps.size=nt/\(a.put d x).defers=a.defers:=by
  cases d with
  | none=>exact ⟨fun t=>by simp [Act.put],hs,rfl⟩
  | some d=>
    have hlt:d < nt:=by have:Nat.blt d nt=true:=hd; rwa [Nat.blt_eq] at this
    refine ⟨fun t=>?_,by simpa [Act.put] using hs,rfl⟩
    simp only [Act.put]
    by_cases ht:d=t
    .subst ht
     have:d < a.tmps.size:=by omega
     simp [this]
    .have:¬ (some d:Option Nat) = some t:=fun e=>ht (qd e)
     rw [qc this]
     simp [Array.getElem?_setIfInBounds_ne ht]
section
variable {P:Program} {A:Nat->Nat->Prop} {E:Entry} {nt:Nat} {c:Cfg} {cl:Callee} {s s':St} {a:Act} {w:World}
theorem yaxc(h:SR A E nt s a w){O:Rho}(hr:Rep A O s.H s.nx w)(hv:ynh w (UU A O s.H) O s a)(he:ygs E.O E.m O s.nx)(hf:Fr E.O E.H E.w O s.H w){v:AV}{s1:St}{x:Value}{w':World}(hp:ydt A O s w v s1 x w'){d:Option Nat}(hd:ypa nt d=true) :
    SR A E nt (s1.putO d v) (a.put d x) w':=by
  obtain ⟨h1,h2,Z,h3,h4,h5,h6⟩:=hp
  have hd1:yko s1:=by
    intro t y hy
    rw [h1] at hy
    rw [h2]
    exact h.disj t y hy
  obtain ⟨g1,g2,g3,g4⟩:=yabt hd1 d v
  obtain ⟨k1,k2,k3⟩:=yna h.size hd x
  refine ⟨g2,k2,by rw [k3]; exact h.defers,Z,by rw [g3,g4]; exact h3,fun t=>?_,by rw [g4]; exact he.trans h5,by rw [g3]; exact hf.trans h6⟩
  rw [g1,k1,g3]
  split
  .exact h4
  .have hg:s1.get t=s.get t:=by rw [ykq,ykq,h1,h2]
   rw [hg]
   exact yacs h6 h5.ext (hv t)
theorem ycds(h:SR A E nt s a w){d:Option Nat}(hd:ypa nt d=true):SR A E nt (s.putO d .un) (a.put d undef) w:=by
  obtain ⟨O,hr,hv,he,hf⟩:=h.ex
  exact yaxc h hr hv he hf (ydt.same (s:=s) (v:=.un) hr (by simp [VR])) hd
theorem ybja{ops:Array Oper}{j:Nat}{q:Oper}{d:Nat}(hj:ops[j]? = some q)(hd:q.dst=some d)(tmps:Array Value):yielded ops tmps j=match tmps.getD d undef with | .bool b=>some b | _=>none:=by
  unfold yielded
  simp only [hj,Option.bind_some,hd]
  cases h:tmps[d]? with
  | none=>
    have:tmps.getD d undef=undef:=by simp [h]
    rw [this]
    rfl
  | some v=>
    have:tmps.getD d undef=v:=by simp [h]
    rw [this]
    cases v <;> rfl
theorem yacj(h:SR A E nt s a w){ops:Array Oper}{o:Oper}{io:Iop}(hc:yxd P ops.toList o=some io){b:Bool}(hw:yis s io.guard=some b):comp P o.op=some io.op/\io.dst=o.dst/\Region.wanted o (yielded ops a.tmps) = b:=by
  obtain ⟨O,hr,hv,_⟩:=h.ex
  unfold yxd at hc
  split at hc
  .rename_i ip hip
   split at hc
   .rename_i hg
    simp only [qa] at hc
    subst hc
    simp only [yis,qa] at hw
    subst hw
    exact ⟨hip,rfl,by simp [Region.wanted,hg]⟩
   .rename_i j want hg
    split at hc
    .rename_i q hq
     split at hc
     .rename_i d hd
      simp only [qa] at hc
      subst hc
      refine ⟨hip,rfl,?_⟩
      have hj:ops[j]? = some q:=by simpa using hq
      simp only [Region.wanted,hg,ybja hj hd]
      have hvd:=hv d
      simp only [yis] at hw
      split at hw
      .rename_i b' hb'
       rw [hb'] at hvd
       simp only [VR] at hvd
       rw [hvd]
       simpa using hw
      .rename_i hu
       rw [hu] at hvd
       simp only [VR] at hvd
       rw [hvd]
       simp only [qa] at hw
       subst hw
       rfl
      .cases hw
     .cases hc
    .cases hc
  .cases hc
theorem ybsx(hcl:yeb P cl)(h:SR A E nt s a w){ops:Array Oper}{o:Oper}{io:Iop}(hc:yxd P ops.toList o=some io)(he:yiy c cl nt io s=some s'){K:Act->World->Prop}{Q:Exit->Act->World->Prop}(hK:∀ a' w',SR A E nt s' a' w'->K a' w') :
    if Region.wanted o (yielded ops a.tmps) then o.wp P a w K Q else K (a.put o.dst undef) w:=by
  unfold yiy at he
  rw [cond_eq_ite] at he
  split at he
  .rename_i hd
   split at he
   .rename_i b hb
    obtain ⟨h1,h2,h3⟩:=yacj h hc hb
    rw [h3]
    rw [cond_eq_ite] at he
    cases b with
    | true=>
      simp only [wl] at he ⊢
      split at he
      .rename_i v s1 hv
       rw [ypu] at he
       simp only [qa] at he
       subst he
       obtain ⟨O,hr,hvs,hx,hf⟩:=h.ex
       refine yur hcl hr hvs h1 hv K Q fun x w' hp=>hK _ _ ?_
       rw [← h2]
       exact yaxc h hr hvs hx hf hp hd
      .cases he
    | false=>
      simp only [qr,wn] at he ⊢
      rw [ypu] at he
      simp only [qa] at he
      subst he
      rw [← h2]
      exact hK _ _ (ycds h hd)
   .cases he
  .cases he
theorem ybaz(hcl:yeb P cl){ops:Array Oper}{Q:Exit->Act->World->Prop}:∀ {l:List Oper} {ios:List Iop} {s s':St} {a:Act} {w:World},yie P ops.toList l=some ios->SR A E nt s a w->ymh c cl nt ios s=some s'->(∀ a' w',SR A E nt s' a' w'->Q .normal a' w')->wpList P ops Q l a w
  | [],ios,s,s',a,w,hc,h,he,hQ=>by
    simp only [yie,qa] at hc
    subst hc
    rw [yvy] at he
    simp only [qa] at he
    subst he
    exact hQ a w h
  | o :: l,ios,s,s',a,w,hc,h,he,hQ=>by
    simp only [yie] at hc
    split at hc
    .rename_i io r h1 h2
     simp only [qa] at hc
     subst hc
     rw [yto] at he
     cases h3:yiy c cl nt io s with
     | none=>rw [h3,yqa] at he; cases he
     | some s1=>
       rw [h3,yqb] at he
       refine wpList_step fun K hK=>?_
       exact ybsx hcl h h1 h3 fun a' w' hs=>hK a' w' (ybaz hcl h2 hs he hQ)
    .cases hc
theorem yvx{s s1:St}(h:SR A E nt s a w):SR A E nt ⟨s.env,[],s.H,s.nx⟩ a w:=by
  obtain ⟨O,hr,hv,hx,hf⟩:=h.ex
  refine ⟨fun t x _=>rfl,h.size,h.defers,O,hr,fun t=>?_,hx,hf⟩
  have h1:=hv t
  rw [ykq] at h1 ⊢
  show VR w (UU A O s.H) O ((lk s.env t).getD .bad) _
  cases he:lk s.env t with
  | none=>simp [VR]
  | some x=>
    rw [h.disj t x he,he] at h1
    exact h1
theorem yaoh(f:Nat->Option Nat):∀ (e:List (Nat × AV)) (t:Nat),lk (ynr f e) t=(lk e t).map (ren f)
  | [],t=>by simp [ynr]
  | (k,v) :: r,t=>by
    simp only [ynr,ybx]
    split
    .rfl
    .exact yaoh f r t
theorem yaxd(hm:∀ i x,E.O i=some x->i < E.m)(h:SR A E nt s a w):SR A E nt (s.tidy E.m) a w:=by
  obtain ⟨O,hr,hv,hx,hf⟩:=h.ex
  obtain ⟨p1,p2⟩:=ywo s.H E.m (ygr s.env)
  obtain ⟨q1,q2,q3⟩:=yacp (l:=ybr s.H E.m (ygr s.env)) hr
  refine ⟨fun t x _=>rfl,h.size,h.defers,yjt (ybr s.H E.m (ygr s.env)) O,q1,fun t=>?_,yalk hx hm p2,hf.trans q3⟩
  have h1:=hv t
  rw [ykq] at h1 ⊢
  show VR w _ _ ((lk (ynr (pos (ybr s.H E.m (ygr s.env))) s.env) t).getD .bad) _
  rw [yaoh]
  cases he:lk s.env t with
  | none=>simp [VR]
  | some x=>
    rw [h.disj t x he,he] at h1
    exact yaqm hr h1
theorem ycdo(hm:∀ i x,E.O i=some x->i < E.m)(h:SR A E nt s a w)(n0:Nat):SR A E nt (s.head E.m n0) a w:=by
  unfold St.head
  rw [cond_eq_ite]
  split
  .exact h
  .exact yaxd hm h
def exOf:Ex->Exit
  | .norm=>.normal
  | .out id=>.exit id
  | .ret=>.ret
def ycca(P:Program)(rg:List (Nat × Nat)->List Iop->St->Option St)(nt:Nat):Prop:=
  ∀ (A:Nat->Nat->Prop) (E:Entry) (id:Nat) (ops:Array Oper) (ios:List Iop) (k:List (Nat × Nat)) (s s':St) (a:Act) (w:World) (Q:Exit->Act->World->Prop),yie P ops.toList ops.toList=some ios->yqj ios ops.toList ios [] = some k->SR A E nt s a w->rg k ios s=some s' ->
    (∀ a' w',SR A E nt s' a' w'->Q .normal a' w')->(Code.region id ops true).wp P Q a w
theorem yave{b:Code}{body:St->Run}(hm:∀ i x,E.O i=some x->i < E.m)
    (hb:∀ {s s':St} {e:Ex} {a:Act} {w:World} {Q:Exit->Act->World->Prop},SR A E nt s a w->body s=some (e,s')->(∀ a' w',SR A E nt s' a' w'->Q (exOf e) a' w')->b.wp P Q a w) :
    ∀ (n n0:Nat) {s s':St} {e:Ex} {a:Act} {w:World} {Q:Exit->Act->World->Prop},SR A E nt s a w->yxe E.m body n n0 s=some (e,s')->(∀ a' w',SR A E nt s' a' w'->Q (exOf e) a' w')->Code.rounds P b Q n a w
  | 0,n0,s,s',e,a,w,Q,h,he,hQ=>by rw [yaeo] at he; cases he
  | n + 1,n0,s,s',e,a,w,Q,h,he,hQ=>by
    rw [yaen] at he
    rw [rounds_succ]
    have h1:=ycdo hm h n0
    cases hbd:body (s.head E.m n0) with
    | none=>rw [hbd,yacb] at he; cases he
    | some r=>
      obtain ⟨e1,s1⟩:=r
      rw [hbd] at he
      refine hb h1 hbd fun a' w' hs=>?_
      cases e1 with
      | norm=>
        rw [yacc] at he
        exact yave hm hb n _ hs he hQ
      | out id=>
        rw [yags] at he
        simp only [qa,qi] at he
        obtain ⟨rfl,rfl⟩:=he
        exact hQ a' w' hs
      | ret=>
        rw [yagt] at he
        simp only [qa,qi] at he
        obtain ⟨rfl,rfl⟩:=he
        exact hQ a' w' hs
theorem ycax(hcl:yeb P cl){rg:List (Nat × Nat)->List Iop->St->Option St}(hrg:ycca P rg nt)(hm:∀ i x,E.O i=some x->i < E.m){n:Nat}:∀ (code:Code) {ic:IC} {s s':St} {e:Ex} {a:Act} {w:World} {Q:Exit->Act->World->Prop},
    ydm P code=some ic->SR A E nt s a w->evC c cl rg nt E.m n ic s=some (e,s')->(∀ a' w',SR A E nt s' a' w'->Q (exOf e) a' w')->code.wp P Q a w:=by
  intro code
  induction code with
  | skip=>
    intro ic s s' e a w Q hc h he hQ
    simp only [ydm,qa] at hc
    subst hc
    rw [yafr] at he
    simp only [qa,qi] at he
    obtain ⟨rfl,rfl⟩:=he
    exact wp_skip (hQ a w h)
  | label l=>
    intro ic s s' e a w Q hc h he hQ
    simp only [ydm,qa] at hc
    subst hc
    rw [yafr] at he
    simp only [qa,qi] at he
    obtain ⟨rfl,rfl⟩:=he
    exact wp_label (hQ a w h)
  | region id ops draw=>
    intro ic s s' e a w Q hc h he hQ
    simp only [ydm] at hc
    split at hc
    .rename_i l hl
     split at hc
     .rename_i hdraw
      subst hdraw
      split at hc
      .rename_i k hk
       simp only [qa] at hc
       subst hc
       rw [yart] at he
       cases h1:rg k l s with
       | none=>rw [h1,yabz] at he; cases he
       | some s1=>
         rw [h1,yaca] at he
         simp only [qa,qi] at he
         obtain ⟨rfl,rfl⟩:=he
         exact hrg A E id ops l k s s1 a w Q hl hk h h1 fun a' w' hs=>hQ a' w' (yvx (s1:=s1) hs)
      .cases hc
     .rename_i hdraw
      have hdraw':draw=false:=by simpa using hdraw
      subst hdraw'
      simp only [qa] at hc
      subst hc
      rw [yayc] at he
      cases h1:ymh c cl nt l s with
      | none=>rw [h1,yabz] at he; cases he
      | some s1=>
        rw [h1,yaca] at he
        simp only [qa,qi] at he
        obtain ⟨rfl,rfl⟩:=he
        exact wp_region_list (ybaz hcl hl h h1 fun a' w' hs=>hQ a' w' (yvx (s1:=s1) hs))
    .cases hc
  | seq x y ihx ihy=>
    intro ic s s' e a w Q hc h he hQ
    simp only [ydm] at hc
    split at hc
    .rename_i x' y' hx hy
     simp only [qa] at hc
     subst hc
     rw [yaye] at he
     cases h1:evC c cl rg nt E.m n x' s with
     | none=>rw [h1,yacb] at he; cases he
     | some r=>
       obtain ⟨e1,s1⟩:=r
       rw [h1] at he
       refine wp_seq (ihx hx h h1 fun a' w' hs=>?_)
       cases e1 with
       | norm=>
         rw [yacc] at he
         exact ihy hy hs he hQ
       | out id=>
         rw [yags] at he
         simp only [qa,qi] at he
         obtain ⟨rfl,rfl⟩:=he
         exact hQ a' w' hs
       | ret=>
         rw [yagt] at he
         simp only [qa,qi] at he
         obtain ⟨rfl,rfl⟩:=he
         exact hQ a' w' hs
    .cases hc
  | cond x t f iht ihf=>
    intro ic s s' e a w Q hc h he hQ
    simp only [ydm] at hc
    split at hc
    .rename_i x' t' f' hx ht hf
     simp only [qa] at hc
     subst hc
     rw [yarr] at he
     obtain ⟨O,hr,hv,_⟩:=h.ex
     have hxv:=ycv hv hx
     cases hb:s.ev x' with
     | bool b=>
       rw [hb] at hxv he
       simp only [VR] at hxv
       rw [yaih] at he
       refine wp_cond hxv ?_
       cases b with
       | true=>exact iht ht h he hQ
       | false=>exact ihf hf h he hQ
     | _=>rw [hb] at he; simp [yaph] at he
    .cases hc
  | block id b ih=>
    intro ic s s' e a w Q hc h he hQ
    simp only [ydm] at hc
    split at hc
    .rename_i b' hb
     simp only [qa] at hc
     subst hc
     rw [yanu] at he
     cases h1:evC c cl rg nt E.m n b' s with
     | none=>rw [h1,yaec] at he; cases he
     | some r=>
       obtain ⟨e1,s1⟩:=r
       rw [h1] at he
       refine wp_block (ih hb h h1 fun a' w' hs=>?_)
       cases e1 with
       | norm=>
         rw [yaed] at he
         simp only [qa,qi] at he
         obtain ⟨rfl,rfl⟩:=he
         exact hQ a' w' hs
       | out j=>
         rw [yahy] at he
         simp only [exOf,Exit.inBlock]
         split at he
         .rename_i hj
          rw [qe hj]
          simp only [qa,qi] at he
          obtain ⟨rfl,rfl⟩:=he
          exact hQ a' w' hs
         .rename_i hj
          rw [qc hj]
          simp only [qa,qi] at he
          obtain ⟨rfl,rfl⟩:=he
          exact hQ a' w' hs
       | ret=>
         rw [yahz] at he
         simp only [qa,qi] at he
         obtain ⟨rfl,rfl⟩:=he
         exact hQ a' w' hs
    .cases hc
  | loop b ih=>
    intro ic s s' e a w Q hc h he hQ
    simp only [ydm] at hc
    split at hc
    .rename_i b' hb
     simp only [qa] at hc
     subst hc
     rw [yars] at he
     exact wp_loop_rounds n (yave hm (fun hs hbd hq=>ih hb hs hbd hq) n 0 h he hQ)
    .cases hc
  | exit id=>
    intro ic s s' e a w Q hc h he hQ
    simp only [ydm,qa] at hc
    subst hc
    rw [yayb] at he
    simp only [qa,qi] at he
    obtain ⟨rfl,rfl⟩:=he
    exact wp_exit (hQ a w h)
  | ret=>
    intro ic s s' e a w Q hc h he hQ
    simp only [ydm,qa] at hc
    subst hc
    rw [yayd] at he
    simp only [qa,qi] at he
    obtain ⟨rfl,rfl⟩:=he
    exact wp_ret (hQ a w h)
  | _=>
    intro ic s s' e a w Q hc
    simp [ydm] at hc
end
def ysm(tmps:Array Value):ResultVar->Sem Value
  | .tmp t=>pure (tmps.getD t undef)
  | .cell a t=>do loadVar t (← asAddr (tmps.getD a undef))
section
variable {P:Program} {A:Nat->Nat->Prop} {E:Entry} {nt:Nat} {c:Cfg} {cl:Callee} {s s':St} {a:Act} {w:World}
theorem yadv{O:Rho}(hr:Rep A O s.H s.nx w)(hv:ynh w (UU A O s.H) O s a):∀ {rs:List ResultVar} {irs:List IR} {vs:List AV},ypr P rs=some irs->yfv s irs=some vs ->
    ∃ xs:List Value,(rs.mapM (ysm a.tmps)).run P w = .ok xs w/\VRs w (UU A O s.H) O vs xs
  | [],irs,vs,hc,h=>by
    simp only [ypr,qa] at hc
    subst hc
    simp only [yfv,qa] at h
    subst h
    exact ⟨[],by simp,by simp [VRs]⟩
  | .tmp t :: rs,irs,vs,hc,h=>by
    simp only [ypr] at hc
    split at hc
    .rename_i l hl
     simp only [qa] at hc
     subst hc
     simp only [yfv] at h
     split at h
     .rename_i l' hl'
      simp only [qa] at h
      subst h
      obtain ⟨xs,g1,g2⟩:=yadv hr hv hl hl'
      refine ⟨a.tmps.getD t undef :: xs,?_,?_⟩
      .rw [List.mapM_cons]
       simp only [Sem.run_bind,ysm,Sem.run_pure,Result.andThen_ok,g1]
      .simp only [VRs]
       exact ⟨_,_,rfl,hv t,g2⟩
     .cases h
    .cases hc
  | .cell b t :: rs,irs,vs,hc,h=>by
    simp only [ypr] at hc
    split at hc
    .rename_i x l hx hl
     simp only [qa] at hc
     subst hc
     simp only [yfv] at h
     split at h
     .rename_i v l' hv' hl'
      simp only [qa] at h
      subst h
      obtain ⟨xs,g1,g2⟩:=yadv hr hv hl hl'
      obtain ⟨z,k1,k2⟩:=yavd (P:=P) hr hx (hv b) hv'
      have k3:(ysm a.tmps (.cell b t)).run P w = .ok z w:=by
        rw [← k1]
        have hb:=hv b
        unfold yka at hv'
        split at hv'
        .rename_i heq
         rw [heq] at hb
         simp only [VR] at hb
         obtain ⟨_,_,_,hb⟩:=hb
         simp only [ysm,hb,Instr.loadAt,Instr.sureAddr,asAddr,Sem.run_bind,Sem.run_pure,Result.andThen_ok]
        .rename_i heq
         rw [heq] at hb
         simp only [VR] at hb
         obtain ⟨_,_,_,hb⟩:=hb
         simp only [ysm,hb,Instr.loadAt,Instr.sureAddr,asAddr,Sem.run_bind,Sem.run_pure,Result.andThen_ok]
        .rename_i heq
         rw [heq] at hb
         simp only [VR] at hb
         obtain ⟨_,_,hb,_⟩:=hb
         simp only [ysm,hb,Instr.loadAt,Instr.sureAddr,asAddr,Sem.run_bind,Sem.run_pure,Result.andThen_ok]
        .cases hv'
      refine ⟨z :: xs,?_,?_⟩
      .rw [List.mapM_cons]
       simp only [Sem.run_bind,k3,Sem.run_pure,Result.andThen_ok,g1]
      .simp only [VRs]
       exact ⟨_,_,rfl,k2,g2⟩
     .cases h
    .cases hc
theorem ywp{fn:Func}{tmps:Array Value}{xs:List Value}(h:(fn.results.toList.mapM (ysm tmps)).run P w = .ok xs w):(results fn tmps).run P w = .ok (match xs with | [x]=>x | xs=>.tuple xs.toArray) w:=by
  have he:(fn.results.mapM (ysm tmps)).run P w = .ok xs.toArray w:=by
    rw [Array.mapM_eq_mapM_toList,Sem.run_map,h]
    rfl
  have hd:results fn tmps=(do
   let vs ← fn.results.mapM (ysm tmps)
   pure (if h:vs.size=1 then vs[0] else .tuple vs)):=by
    unfold results
    congr 1
  rw [hd]
  simp only [Sem.run_bind,he,Result.andThen_ok,Sem.run_pure]
  match xs with
  | []=>simp
  | [x]=>simp
  | x :: y :: r=>simp
theorem yaog(args:List AV):∀ (live:List Nat) (t:Nat),lk (yaz args live) t=none\/lk (yaz args live) t=some (match args[t]? with | some v=>v | none=>.un)
  | [],t=>.inl (by simp [yaz])
  | k :: r,t=>by
    simp only [yaz,ybx]
    by_cases h:k=t
    .subst h
     right
     rw [qe rfl]
     cases args[k]? <;> rfl
    .rw [qc h]
     exact yaog args r t
theorem yaqk{O:Rho}{H:yr}{m:Nat}(hr:Rep A O H m w){args:List AV}{xs:Array Value}(hx:VRs w (UU A O H) O args xs.toList){nt:Nat}(hn:args.length<=nt)(live:List Nat) :
    SR A ⟨O,H,w,m⟩ nt ⟨yaz args live,[],H,m⟩ { tmps:=xs++Array.replicate (nt - xs.size) undef,defers:=[] } w:=by
  have hl:=ycd hx
  have hxs:xs.toList.length=xs.size:=by simp
  refine ⟨fun t x _=>rfl,by simp; omega,rfl,O,hr,fun t=>?_,ygs.refl _ _,Fr.refl _ _ _⟩
  rw [ykq]
  show VR w (UU A O H) O ((lk (yaz args live) t).getD .bad) _
  rcases yaog args live t with h | h
  .rw [h]; simp [VR]
  .rw [h,Option.getD_some]
   cases ha:args[t]? with
   | some v=>
     obtain ⟨x,h1,h2⟩:=ydz hx ha
     have hlt:t < xs.size:=by
       rcases qz t xs.size with h | h
       .exact h
       .rw [qm (by omega)] at h1; cases h1
     have h3:xs[t]? = some x:=by simpa using h1
     have:(xs++Array.replicate (nt - xs.size) undef).getD t undef=x:=by
       rw [Array.getD_eq_getD_getElem?,Array.getElem?_append_left hlt,h3]
       rfl
     rw [this]
     exact h2
   | none=>
     have hge:xs.size<=t:=by
       rcases qz t xs.size with h | h
       .have:t < args.length:=by omega
        rw [qj this] at ha; cases ha
       .exact h
     have:(xs++Array.replicate (nt - xs.size) undef).getD t undef=undef:=by
       rw [Array.getD_eq_getD_getElem?,Array.getElem?_append_right hge,Array.getElem?_replicate]
       split <;> rfl
     rw [this]
     simp [VR]
def ybbi(c:Cfg):Prop:=∀ f i,c.fn f=some i->∃ fn V,c.P.funcs[f]? = some fn/\ybq c.P V fn=some i
def yaqd(c:Cfg)(dr:yahp):Prop:=∀ cl,yeb c.P cl->∀ nt,ycca c.P (dr c cl nt) nt
theorem yya{V:List Nat}{fn:Func}{i:IFn}(h:ybq P V fn=some i):(fn.name == "runtime.NumGoroutine") = false/\∃ body,fn.body=some body/\i.nt=fn.ntmps/\ydm P body=some i.body/\ypr P fn.results.toList=some i.res:=by
  unfold ybq at h
  split at h
  .cases h
  .rename_i hn
   split at h
   .rename_i body hb
    split at h
    .rename_i b r h1 h2
     simp only [qa] at h
     subst h
     exact ⟨by simpa using hn,body,hb,rfl,h1,h2⟩
    .cases h
   .cases h
theorem ycdl{H:yr}{m n':Nat}{r:AV}{H':yr}{e:Ending}{O:Rho}{w':World}(h:Ret A O H w m r H' n' e w'):Ret A O H w m (frzX H' r) [] n' e w':=by
  cases e with
  | returned x=>
    obtain ⟨Z,g1,g2,g3,g4⟩:=h
    have hw:∀ b o,Wr Z [] b o->Wr Z H' b o:=fun b o hw=>by
      obtain ⟨id,es,ob,h1,_⟩:=hw
      simp at h1
    have hn:∀ b o,¬ Wr Z [] b o:=fun b o hw=>by
      obtain ⟨id,es,ob,h1,_⟩:=hw
      simp at h1
    refine ⟨Z,ynx g1 (fun k o hk=>by simp at hk),?_,g3,g4.trans (yhj hw)⟩
    refine ydw (ydo.less fun b o hu=>?_) _ _ ych Z (fun id x hx=>by cases hx) (yaxe g1 r x g2)
    exact hu.elim (fun h=>h) (fun h=>absurd h (hn b o))
  | panicked chain=>exact h
  | outgrown=>exact h
theorem ybre{b:Bool}{x:Option (AV × yr × Nat)}{r:AV}{H':yr}{n':Nat}(h:outX b x=some (r,H',n')):∃ r0 H0,x=some (r0,H0,n')/\((r=r0/\H' = H0)\/(r=frzX H0 r0/\H' = [])):=by
  cases b with
  | false=>exact ⟨r,H',h,.inl ⟨rfl,rfl⟩⟩
  | true=>
    cases x with
    | none=>cases h
    | some p=>
      obtain ⟨r0,H0,n0⟩:=p
      simp only [outX,cond_true,qa,qi] at h
      obtain ⟨rfl,rfl,rfl⟩:=h
      exact ⟨r0,H0,rfl,.inr ⟨rfl,rfl⟩⟩
theorem ywr(hc:ybbi c){dr:yahp}(hd:yaqd c dr)(hp:yeb c.P c.pr):∀ k,yeb c.P (ytl c dr k)
  | 0=>⟨hp.cln,fun h=>by simp [ytl] at h,fun h=>by simp [ytl] at h⟩
  | k + 1=>by
    have ih:=ywr hc hd hp k
    refine ⟨hp.cln,fun {f args H m r} h=>?_,fun {f args H m r H' n'} h A O w xs hr hx=>?_⟩
    .simp only [ytl] at h
     split at h
     .rename_i i hi
      obtain ⟨fn,V,h1,h2⟩:=hc f i hi
      obtain ⟨h3,body,h4,_⟩:=yya h2
      exact ⟨fn,h1,h3,by rw [h4]; rfl⟩
     .exact hp.fn h
    .simp only [ytl] at h
     split at h
     .rename_i i hi
      obtain ⟨fn,V,h1,h2⟩:=hc f i hi
      obtain ⟨h3,body,h4,h5,h6,h7⟩:=yya h2
      split at h
      .rename_i hn
       obtain ⟨r0,H0,h,hrr⟩:=ybre h
       have hbase:Calls c.P f xs w (Ret A O H w m r0 H0 n')->Calls c.P f xs w (Ret A O H w m r H' n'):=fun hh=>Calls.mono hh fun e w' he=>by
         rcases hrr with ⟨rfl,rfl⟩ | ⟨rfl,rfl⟩
         .exact he
         .exact ycdl he
       refine hbase ?_
       clear hbase hrr
       have hst:=yaqk hr hx hn i.live
       rw [h5] at hst
       refine calls_of_wp h1 h4 ?_
       unfold yns at h
       split at h
       .cases h
       .rename_i e s1 hne he
        split at h
        .rename_i vs hvs
         simp only [qa,qi] at h
         obtain ⟨rfl,rfl,rfl⟩:=h
         refine ycax ih (hd _ ih i.nt) (nt:=i.nt) (fun j x hj=>hr.ltR j x hj) body h6 (by rw [h5]; exact hst) he fun a' w' hs=>?_
         obtain ⟨AC,q1,q2,q3,q4⟩:=hs.ex
         obtain ⟨ys,g1,g2⟩:=yadv q1 q2 h7 hvs
         have hbody:∃ v,(results fn a'.tmps).run c.P w' = .ok v w'/\Ret A O H w m (ren (pos (ybr s1.H m vs)) (one vs)) (ycy (pos (ybr s1.H m vs)) s1.H) (ybr s1.H m vs).length (.returned v) w':=by
           refine ⟨_,ywp g1,?_⟩
           obtain ⟨p1,p2⟩:=ywo s1.H m vs
           obtain ⟨r1,r2,r3⟩:=yacp (l:=ybr s1.H m vs) q1
           refine ⟨yjt (ybr s1.H m vs) AC,r1,yaqm q1 ?_,yalk q3 (fun j x hj=>hr.ltR j x hj) p2,q4.trans r3⟩
           have hlen:=ycd g2
           match vs,ys,g2,hlen with
           | [],[],g2,_=>simp only [one,VR]; exact ⟨_,rfl,g2⟩
           | [v],[y],g2,_=>
             simp only [one]
             simp only [VRs] at g2
             obtain ⟨x,r,e1,e2,e3⟩:=g2
             simp only [List.cons.injEq] at e1
             rw [e1.1]
             exact e2
           | v :: v2 :: r,y :: y2 :: r',g2,_=>simp only [one,VR]; exact ⟨_,rfl,g2⟩
         obtain ⟨v,b1,b2⟩:=hbody
         cases e with
         | norm=>exact ⟨hs.defers,v,b1,b2⟩
         | ret=>exact ⟨hs.defers,v,b1,b2⟩
         | out id=>exact absurd rfl (hne id)
        .cases h
       .cases h
      .cases h
     .exact hp.calls h hr hx
end
end Go.Proofs.Ytgoachcogmlhcaa.R
