/- copy. -/
import Derived.Test.YtgoachcogmlhcaaGreatRLit
set_option linter.unusedVariables false
set_option linter.unusedSectionVars false
set_option linter.unusedSimpArgs false
noncomputable section
namespace Go.Proofs.YtgoachcogmlhcaaGreat.R
open Go
theorem yoa:∀ (rows:List (List AV)) (k:Nat) (ns:List (List AV)),k + ns.length≤rows.length→yhn rows k ns=rows.take k++ns++rows.drop (k + ns.length)
  | [],k,ns,h=>by
    have h1:k=0:=by simp at h; omega
    have h2:ns = []:=List.eq_nil_of_length_eq_zero (by rw [List.length_nil] at h; omega)
    subst h1; subst h2; simp [yhn]
  | r :: rs,0,n :: ns,h=>by
    have:=yoa rs 0 ns (by simpa using h)
    simp only [yhn,this,List.take_zero,List.nil_append,Nat.zero_add,List.cons_append,List.length_cons,List.drop_succ_cons]
  | r :: rs,0,[],h=>by simp [yhn]
  | r :: rs,k + 1,ns,h=>by
    have:=yoa rs k ns (by simp at h; omega)
    simp only [yhn,this,List.take_succ_cons,List.cons_append,List.append_assoc]
    rw [show k + 1 + ns.length=(k + ns.length) + 1 by omega,List.drop_succ_cons]
section
variable {P:Program} {w:World} {A:Nat→Nat→Prop} {U:Nat→Nat→Prop} {ρ:Rho}
theorem yakj{es:Nat}{rows:List (List AV)}{C:List Value}(h:ARs w U es rows C)(k:Nat):ARs w U es (rows.take k) C:=by
  refine ykw fun i r hi=>?_
  rw [List.getElem?_take] at hi
  split at hi
  ·exact ygt h hi
  ·cases hi
theorem ybtf{es:Nat}{rows:List (List AV)}{C:List Value}(h:ARs w U es rows C)(k:Nat):ARs w U es (rows.drop k) (C.drop (k * es)):=by
  refine ykw fun i r hi=>?_
  rw [List.getElem?_drop] at hi
  obtain ⟨g1,g2,g3⟩:=ygt h hi
  have e:k * es + i * es=(k + i) * es:=by rw [Nat.add_mul]
  rw [List.drop_drop,e]
  refine ⟨g1,?_,g3⟩
  rw [List.length_drop]
  rw [Nat.succ_mul] at g2 ⊢
  omega
theorem ybrf(C:Array Value)(o:Nat)(news:List Value)(h:o + news.length≤C.size):(ykv C o news).toList=C.toList.take o++news++C.toList.drop (o + news.length):=by
  apply List.ext_getElem?
  intro i
  have hcl:C.toList.length=C.size:=by simp
  rw [Array.getElem?_toList,yib]
  by_cases h1:i < o
  ·rw [if_neg (by omega),List.append_assoc,List.getElem?_append_left (by rw [List.length_take]; omega),List.getElem?_take,if_pos h1,Array.getElem?_toList]
  ·by_cases h2:i < o + news.length
   ·rw [if_pos (by omega),List.append_assoc,List.getElem?_append_right (by rw [List.length_take]; omega),List.getElem?_append_left (by rw [List.length_take]; omega),List.length_take,Nat.min_eq_left (by omega)]
   ·rw [if_neg (by omega),List.getElem?_append_right (by rw [List.length_append,List.length_take]; omega),List.getElem?_drop,List.length_append,List.length_take,Nat.min_eq_left (by omega),Array.getElem?_toList]
    congr 1; omega
theorem yahv{t ty e:TypeId}{ts:Array TypeId}{tr:List TypeId}(hts:ts.toList=t :: tr){xe:TI}(h1:P.underlying t=some (.slice e))(h2:ybj P e=some xe){B:Option Addr}{len c m:Nat}{X:Value}{cs:List Value}(hl:∀ w',(Builtin.lenOf X).run P w' = .ok m w')
    (hf:(Builtin.firstCells xe.size (Nat.min m len) X).run P w = .ok cs.toArray w) {w':World} (hst:(match B with | some a=>storeCells a cs | none=>pure ():Sem Unit).run P w = .ok () w') :
    (Builtin.copy_ ts ty #[.slice B len c,X]).run P w = .ok (goInt (Nat.min m len)) w':=by
  have h0:ts[0]? = some t:=by rw [← Array.getElem?_toList,hts]; rfl
  simp only [Builtin.copy_,h0,List.getElem?_toArray,List.getElem?_cons_zero,List.getElem?_cons_succ,Sem.run_bind,run_underlying h1,Result.andThen_ok,ycz h2,hl,hf,Sem.run_pure]
  cases B with
  | none=>
    simp only [Sem.run_pure,Result.ok.injEq,true_and] at hst
    subst hst
    simp
  | some a=>
    simp only at hst
    simp [hst]
theorem ycon{s s':St}(hr:Rep A ρ s.H s.nx w){t ty e:TypeId}{ts:Array TypeId}{tr:List TypeId}(hts:ts.toList=t :: tr){xe:TI}(h1:P.underlying t=some (.slice e))(h2:ybj P e=some xe)(hz:0 < xe.size){y x v:AV}{Y X:Value}(hy:VR w (UU A ρ s.H) ρ y Y)(hx:VR w (UU A ρ s.H) ρ x X)(h:ykf xe.size s y x=some (v,s')) :
    ∃ z w',(Builtin.copy_ ts ty #[Y,X]).run P w = .ok z w'∧ydj A ρ s w v s' z w':=by
  unfold ykf at h
  split at h
  ·rename_i src es' id off len ex hn
   split at h
   ·rename_i hes
    subst hes
    split at h
    ·rename_i es2 rows leak hid
     split at h
     ·rename_i hc
      obtain ⟨c1,c2⟩:=hc
      split at h
      ·rename_i H hup
       simp only [Option.some.injEq,Prod.mk.injEq] at h
       obtain ⟨rfl,rfl⟩:=h
       obtain ⟨news,k1,k2,k3,k4⟩:=yjz (P:=P) hr hx hn
       simp only [VR] at hy
       obtain ⟨B,c,rfl,g1,g2,g3⟩:=hy
       have hlen:(src.take len).length=Nat.min src.length len:=by rw [List.length_take,Nat.min_comm]
       have hf:=k4 w rfl (Nat.min src.length len) (Nat.min_le_left _ _)
       have hgo:goInt (Nat.min src.length len) = Value.int .i64 ((src.take len).length:Int):=by rw [hlen]; rfl
       rcases g3 with ⟨rfl,rfl⟩ | ⟨b,C,e',fr,g4,rfl,g5,g6⟩
       ·have h0:Nat.min src.length 0=0:=Nat.min_eq_right (Nat.zero_le _)
        have hst:(match B with | some a=>storeCells a (news.take (Nat.min src.length 0 * xe.size)) | none=>pure ():Sem Unit).run P w = .ok () w:=by
          rw [h0]
          simp only [Nat.zero_mul,List.take_zero]
          cases B <;> rfl
        refine ⟨_,_,yahv (ty:=ty) hts h1 h2 k3 hf hst,?_⟩
        have hsame:∀ k,lk H k=lk s.H k:=by
          intro k
          rw [ygd hup k]
          by_cases hk:k=id
          ·subst hk
           rw [if_pos rfl,hid]
           rw [yoa _ _ _ c2]
           simp
          ·rw [if_neg hk]
        have hsub:∀ k o,lk H k=some o→lk s.H k=some o:=fun k o hk=>by rw [← hsame]; exact hk
        rw [hgo]
        refine ⟨rfl,rfl,ρ,ymu hr hsub,by simp [VR,ymg],yfh.refl _ _,yhj fun b o hw=>yjn hsub hw⟩
       ·obtain ⟨q1,q2,C',e2,fr2,q3,q4,q5⟩:=hr.ob id _ b xe.size hid g4
        subst q1
        rw [g5] at q3
        simp only [Option.some.injEq,Obj.cells.injEq] at q3
        obtain ⟨rfl,rfl,rfl⟩:=q3
        let cs:=news.take (Nat.min src.length len * xe.size)
        have hm:Nat.min src.length len≤src.length:=Nat.min_le_left _ _
        have hcs:cs.length=Nat.min src.length len * xe.size:=by
          simp only [cs,List.length_take,k1]
          exact Nat.min_eq_left (Nat.mul_le_mul_right _ hm)
        have hrl:=yage q5
        have hcl:C.toList.length=C.size:=by simp
        have hfit:off * xe.size + cs.length≤C.size:=by
          rw [hcs,← Nat.add_mul]
          have:(off + Nat.min src.length len) * xe.size≤rows.length * xe.size:=Nat.mul_le_mul_right _ (by rw [hlen] at c2; exact c2)
          omega
        have hA2:ARs w (UU A ρ s.H) xe.size (src.take len) cs:=by
          have:=yaba (k:=Nat.min src.length len * xe.size) (yakj k2 len) (by rw [hlen]; exact Nat.le_refl _)
          exact this
        have hone:=yasx hA2 (by rw [hcs,hlen])
        have hst:=run_storeCells_cells (P:=P) b (off * xe.size) cs 0 w (fun j hj=>by
         rw [yfr g5]; simp; omega) (fun j hj=>ymc g5 q4 (by omega)) (fun v hv=>ymj (hone v hv))
        simp only [Nat.add_zero] at hst
        refine ⟨_,_,yahv (B:=some ⟨b,off * xe.size,none⟩) (ty:=ty) hts h1 h2 k3 hf hst,rfl,rfl,ρ,?_⟩
        obtain ⟨u1,u2,u3,u4,u5,u6⟩:=yjd b e' fr cs (off * xe.size) w C g5
        have hwrite:∀ o,¬ yiy xe.size o (.arr xe.size rows leak)→(ykv C (off * xe.size) cs)[o]? = C[o]?:=by
          intro o ho
          rw [yib,if_neg]
          intro hh
          apply ho
          simp only [yiy]
          have:leak * xe.size≤off * xe.size:=Nat.mul_le_mul_right _ c1
          omega
        obtain ⟨hfr,hrep⟩:=ypd (H':=H) (ob':=.arr xe.size (yhn rows off (src.take len)) leak) hr hid g4 g5 u1 u2 u3 u4 u5 u6 (yfv _ _ _) hwrite (fun k=>ygd hup k) (fun _ hh=>hh)
        rw [hgo]
        refine ⟨hrep ⟨rfl,hz,_,e',fr,u1,by rw [yfv]; exact q4,?_⟩,by simp [VR,ymg],yfh.refl _ _,hfr⟩
        rw [ybrf C _ cs hfit,yoa _ _ _ c2]
        have hq:=ygz hfr.stay q5
        have h3:=ygz hfr.stay hA2
        have hoff:off≤rows.length:=by omega
        have ha:ARs (w.setCells b (off * xe.size) cs) (UU A ρ H) xe.size (rows.take off++src.take len) (C.toList.take (off * xe.size)++cs):=by
          refine ylt (yaba (yakj hq off) ?_) ?_ h3
          ·rw [List.length_take,Nat.min_eq_left hoff]; exact Nat.le_refl _
          ·rw [List.length_take,List.length_take,Nat.min_eq_left hoff,Nat.min_eq_left (by omega)]
        refine ylt ha ?_ ?_
        ·rw [List.length_append,List.length_append,hcs,hlen,List.length_take,List.length_take,Nat.min_eq_left (by omega:off * xe.size≤C.toList.length),Nat.min_eq_left hoff,Nat.add_mul]
        ·have:=ybtf hq (off + (src.take len).length)
         rwa [Nat.add_mul,hlen,← hcs,← hlen] at this
      ·cases h
     ·cases h
    ·cases h
   ·cases h
  ·rename_i src hn
   simp only [Option.some.injEq,Prod.mk.injEq] at h
   obtain ⟨rfl,rfl⟩:=h
   obtain ⟨news,k1,k2,k3,k4⟩:=yjz (P:=P) hr hx hn
   simp only [VR] at hy
   subst hy
   have hf:=k4 w rfl (Nat.min src.length 0) (Nat.min_le_left _ _)
   refine ⟨_,_,yahv (B:=none) (ty:=ty) (w':=w) hts h1 h2 k3 hf rfl,?_⟩
   refine ydj.same hr ?_
   rw [show Nat.min src.length 0=0 from Nat.min_eq_right (Nat.zero_le _)]
   simp [VR,ymg,goInt]
  ·cases h
end
end Go.Proofs.YtgoachcogmlhcaaGreat.R
