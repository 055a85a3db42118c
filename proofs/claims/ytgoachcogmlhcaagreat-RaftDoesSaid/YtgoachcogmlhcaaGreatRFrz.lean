/- What is read of a value as it is now; what is written at a place. -/
import Derived.Test.YtgoachcogmlhcaaGreatRMop
set_option linter.unusedVariables false
set_option linter.unusedSectionVars false
set_option linter.unusedSimpArgs false
noncomputable section
namespace Go.Proofs.YtgoachcogmlhcaaGreat.R
open Go
mutual
theorem yii:∀ (v:AV) (H:yq),ybx H (ybm H v)
  | .own es id off len ex,H=>by simp only [ybm]; exact ybx.at _ _ _
  | .agg cs,H=>by simp only [ybm]; exact yja cs H
  | .tup cs,H=>by simp only [ybm]; exact yja cs H
  | .bad,H=>by simp only [ybm]; exact ybx.refl _
  | .un,H=>by simp only [ybm]; exact ybx.refl _
  | .bool _,H=>by simp only [ybm]; exact ybx.refl _
  | .int _ _,H=>by simp only [ybm]; exact ybx.refl _
  | .str _,H=>by simp only [ybm]; exact ybx.refl _
  | .nil,H=>by simp only [ybm]; exact ybx.refl _
  | .oth _,H=>by simp only [ybm]; exact ybx.refl _
  | .imm _ _ _,H=>by simp only [ybm]; exact ybx.refl _
  | .ptr _ _,H=>by simp only [ybm]; exact ybx.refl _
  | .eptr _ _ _,H=>by simp only [ybm]; exact ybx.refl _
  | .iptr _ _,H=>by simp only [ybm]; exact ybx.refl _
  | .fn _ _ _,H=>by simp only [ybm]; exact ybx.refl _
theorem yja:∀ (vs:List AV) (H:yq),ybx H (yei H vs)
  | [],H=>by simp only [yei]; exact ybx.refl _
  | v :: r,H=>by simp only [yei]; exact (yii v H).trans (yja r _)
end
def yqk(H:yq)(id n:Nat):Prop:=∀ es rows leak,lk H id=some (.arr es rows leak)→n≤leak
theorem yqk.leak{H H':yq}{id n:Nat}(h:yqk H id n)(hl:ybx H H'):yqk H' id n:=by
  intro es rows leak hk
  obtain ⟨o,m,h1,h2⟩:=hl.back _ _ hk
  cases o with
  | box c=>simp [ycu] at h2
  | arr es' rows' leak'=>
    simp only [ycu,Ob.arr.injEq] at h2
    obtain ⟨rfl,rfl,rfl⟩:=h2
    exact Nat.le_trans (h _ _ _ h1) (Nat.le_max_left _ _)
theorem yqk.at(H:yq)(id n:Nat):yqk (yju H id n) id n:=by
  intro es rows leak hk
  rw [you] at hk
  cases h:lk H id with
  | none=>simp [h] at hk
  | some o=>
    simp only [h,Option.map_some,if_true,Option.some.injEq] at hk
    cases o with
    | box c=>simp [ycu] at hk
    | arr es' rows' leak'=>
      simp only [ycu,Ob.arr.injEq] at hk
      obtain ⟨rfl,rfl,rfl⟩:=hk
      exact Nat.le_max_right _ _
section
variable {P:Program} {w:World} {A:Nat→Nat→Prop} {ρ:Rho} {H H':yq} {nx:Nat}
theorem yahz(hl:ybx H H'):ydn w (UU A ρ H) w (UU A ρ H'):=ydn.less fun b o hu=>hu.imp_right (ymw hl)
theorem ycmp(hr:Rep A ρ H nx w)(hl:ybx H H'){es id off len:Nat}{ex ex':Bool}{rows:List (List AV)}{es' leak:Nat}(hid:lk H id=some (.arr es' rows leak))(hle:off + len≤rows.length)(hge:yqk H' id (off + len))(hex:ex' = true→ex=true)
    {U:Nat→Nat→Prop} {x:Value} (h:VR w U ρ (.own es id off len ex) x):VR w (UU A ρ H') ybz (.imm es ((rows.drop off).take len) ex') x:=by
  simp only [VR] at h ⊢
  obtain ⟨B,c,rfl,h2,h3,h4⟩:=h
  have hlen:((rows.drop off).take len).length=len:=by rw [List.length_take,List.length_drop]; omega
  refine ⟨B,c,by rw [hlen],by omega,fun he=>by rw [hlen]; exact h3 (hex he),?_⟩
  rcases h4 with ⟨rfl,rfl⟩ | ⟨b,C,e,fr,h5,rfl,h6,h7⟩
  ·left; simp
  ·right
   refine ⟨b,off * es,rfl,?_⟩
   refine ywf fun i r hi=>?_
   rw [List.getElem?_take] at hi
   split at hi
   ·rename_i hilt
    rw [List.getElem?_drop] at hi
    obtain ⟨_,_,C0,e0,fr0,q1,q2,q3⟩:=hr.ob id _ b es hid h5
    obtain ⟨g1,q4,q5,q6⟩:=ygt q3 hi
    refine ⟨g1,yact fun j a hj=>?_⟩
    obtain ⟨v,g3',g4⟩:=ydp q5 hj
    have hone:=q6 v (List.mem_of_getElem? g3')
    have hjlt:j < es:=by
      rw [← g1]
      rcases Nat.lt_or_ge j r.length with hl | hl
      ·exact hl
      ·rw [List.getElem?_eq_none hl] at hj; cases hj
    have hadd:off * es + i * es + j=(off + i) * es + j:=by rw [Nat.add_mul]
    have g3:w.cell? ⟨b,(off + i) * es + j,none⟩ = some v:=by
      rw [List.getElem?_take,if_pos hjlt,List.getElem?_drop,Array.getElem?_toList] at g3'
      rw [yfr q1]; exact g3'
    refine ⟨v,by rw [hadd]; exact g3,?_,hone,?_⟩
    ·rw [hadd]
     rintro (ha | ⟨id',es2,ob,k1,k2,k3⟩)
     ·exact hr.apart id _ b es _ hid h5 ha
     ·obtain ⟨o2,m,k4,rfl⟩:=hl.back _ _ k1
      have:=hr.inj id' id o2 _ b es2 es k4 hid k2 h5
      subst this
      rw [hid] at k4
      obtain rfl:=Option.some.inj k4
      rw [h5] at k2
      simp only [Option.some.injEq,Prod.mk.injEq] at k2
      obtain ⟨_,rfl⟩:=k2
      simp only [ycu,yiy] at k3
      have:=hge _ _ _ k1
      have h8:(off + len) * es≤max leak m * es:=Nat.mul_le_mul_right _ this
      have h9:(off + i + 1) * es≤(off + len) * es:=Nat.mul_le_mul_right _ (by omega)
      rw [Nat.succ_mul] at h9
      omega
    ·refine ydo (ydn.less fun b o hu=>?_) a v ybz ybz (Ext.refl _) g4
     exact hu.imp_right (ymw hl)
   ·cases hi
mutual
theorem ywi(hr:Rep A ρ H nx w):∀ (v:AV) (H1:yq),ybx H H1→∀ (H':yq),ybx (ybm H1 v) H'→∀ x,VR w (UU A ρ H) ρ v x→VR w (UU A ρ H') ybz (frz H v) x
  | .own es id off len ex,H1,hl1,H',hl,x,h=>by
    simp only [frz,ybm] at hl ⊢
    split
    ·rename_i es' rows leak hid
     split
     ·rename_i hle
      refine yyg (ycmp (ex':=false) hr ((hl1.trans (ybx.at _ _ _)).trans hl) hid hle ?_ (by simp) h)
      exact (yqk.at _ _ _).leak hl
     ·simp [VR]
    ·simp [VR]
  | .agg cs,H1,hl1,H',hl,x,h=>by
    simp only [frz,ybm,VR] at hl h ⊢
    obtain ⟨xs,h1,h2⟩:=h
    exact ⟨xs,h1,yyi hr cs H1 hl1 H' hl _ h2⟩
  | .tup cs,H1,hl1,H',hl,x,h=>by
    simp only [frz,ybm,VR] at hl h ⊢
    obtain ⟨xs,h1,h2⟩:=h
    exact ⟨xs,h1,yyi hr cs H1 hl1 H' hl _ h2⟩
  | .imm es rows ex,H1,hl1,H',hl,x,h=>by
    simp only [frz,ybm] at hl ⊢
    have:=ydo (yahz (hl1.trans hl)) (.imm es rows ex) x ρ ρ (Ext.refl _) h
    refine yyg (es:=es) (ex:=ex) ?_
    simpa [VR] using this
  | .iptr row f,H1,hl1,H',hl,x,h=>by
    simp only [frz,ybm] at hl ⊢
    have:=ydo (yahz (hl1.trans hl)) (.iptr row f) x ρ ρ (Ext.refl _) h
    simpa [VR] using this
  | .ptr _ _,H1,hl1,H',hl,x,h=>by simp [frz,VR]
  | .eptr _ _ _,H1,hl1,H',hl,x,h=>by simp [frz,VR]
  | .fn _ _ _,H1,hl1,H',hl,x,h=>by simp [frz,VR]
  | .bad,H1,hl1,H',hl,x,h=>by simp [frz,VR]
  | .un,H1,hl1,H',hl,x,h=>by simpa [frz,VR] using h
  | .bool _,H1,hl1,H',hl,x,h=>by simpa [frz,VR] using h
  | .int _ _,H1,hl1,H',hl,x,h=>by simpa [frz,VR] using h
  | .str _,H1,hl1,H',hl,x,h=>by simpa [frz,VR] using h
  | .nil,H1,hl1,H',hl,x,h=>by
    simp only [frz]
    exact yatc (ρ:=ρ) (by simpa [VR] using h)
  | .oth _,H1,hl1,H',hl,x,h=>by simpa [frz,VR] using h
theorem yyi(hr:Rep A ρ H nx w):∀ (vs:List AV) (H1:yq),ybx H H1→∀ (H':yq),ybx (yei H1 vs) H'→∀ xs,VRs w (UU A ρ H) ρ vs xs→VRs w (UU A ρ H') ybz (yef H vs) xs
  | [],H1,hl1,H',hl,xs,h=>by simpa [yef,VRs] using h
  | v :: r,H1,hl1,H',hl,xs,h=>by
    simp only [yef,yei,VRs] at hl h ⊢
    obtain ⟨x,q,h1,h2,h3⟩:=h
    exact ⟨x,q,h1,ywi hr v H1 hl1 H' ((yja r _).trans hl) x h2,yyi hr r (ybm H1 v) (hl1.trans (yii v H1)) H' hl q h3⟩
end
theorem yxt{t:TypeId}{x:TI}(ht:ybj P t=some x){b o:Nat}{X:Value}(hs:X.cells.size=x.size)(h1:∀ y∈X.cells.toList,ygp y=true){C:Array Value}{e:TypeId}{fr:Nat × Nat}(hb:w.heap[b]? = some (Obj.cells C e fr))(hu:unfr fr C.size)
    (hle:o + x.size≤C.size):(Instr.storeAt t (.pointer (some ⟨b,o,none⟩)) X).run P w = .ok () (w.setCells b o X.cells.toList):=by
  have hne:¬ (X.cells.size≠x.size):=by simp [hs]
  have hst:=run_storeCells_cells (P:=P) b o X.cells.toList 0 w (fun j hj=>by
   rw [yfr hb]
   simp at hj ⊢; omega) (fun j hj=>ymc hb hu (by simp at hj; omega)) (fun v hv=>ymj (h1 v hv))
  simp only [Nat.add_zero] at hst
  simp only [Instr.storeAt,Instr.sureAddr,Sem.run_bind,Sem.run_pure,Result.andThen_ok,storeVar,ycz ht,Sem.run_ite,if_neg hne]
  exact hst
theorem ybsw{s:St}(hr:Rep A ρ s.H s.nx w){t:TypeId}{ti:TI}(ht:ybj P t=some ti){p v:AV}{p' X:Value}(hp:VR w (UU A ρ s.H) ρ p p')(hv:VR w (UU A ρ s.H) ρ v X){H':yq}(h:yka ti.size s.H p v=some H') :
    ∃ w',(Instr.storeAt t p' X).run P w = .ok () w'∧ydj A ρ s w .un (s.setH H') undef w':=by
  unfold yka at h
  split at h
  ·rename_i id off
   split at h
   ·rename_i cells vs hid hvs
    split at h
    ·rename_i hc
     obtain ⟨c1,c2,c3⟩:=hc
     simp only [VR] at hp
     obtain ⟨b,es,hρ,rfl⟩:=hp
     obtain ⟨C,e,fr,hb,hu,hC⟩:=hr.ob id _ b es hid hρ
     have hX:=yom hvs hv
     have hlx:=yce hX
     have hlc:=yce hC
     have hxs:X.cells.toList.length=X.cells.size:=by simp
     have hcs:C.toList.length=C.size:=by simp
     have hrun:=yxt (P:=P) (w:=w) ht (o:=off) (X:=X) (by omega) (ylh c3 hX) hb hu (by omega)
     refine ⟨_,hrun,rfl,rfl,ρ,?_⟩
     obtain ⟨k1,k2,k3,k4,k5,k6⟩:=yjd b e fr X.cells.toList off w C hb
     obtain ⟨hfr,hrep⟩:=ypd (H':=H') (ob':=.box (ych cells off vs)) hr hid hρ hb k1 k2 k3 k4 k5 k6 (yfv _ _ _) (fun o ho=>absurd trivial ho) (fun k=>ygd h k) (fun _ _=>trivial)
     refine ⟨hrep ⟨_,e,fr,k1,by rw [yfv]; exact hu,?_⟩,by simp [VR],yfh.refl _ _,hfr⟩
     exact ybtj (yel hfr.stay _ _ ρ ρ (Ext.refl _) hC) (yel hfr.stay _ _ ρ ρ (Ext.refl _) hX) c2
    ·cases h
   ·cases h
  ·rename_i id i f
   split at h
   ·rename_i vs es' rows leak hvs hid
    split at h
    ·rename_i row hrow
     split at h
     ·rename_i hc
      obtain ⟨c1,c2,c3,c4,c5⟩:=hc
      simp only [VR] at hp
      obtain ⟨b,es,hρ,rfl⟩:=hp
      have hl:=yii v s.H
      have hr1:=yqm hr hl
      obtain ⟨h0,hz,C,e,fr,hb,hu,hC⟩:=hr1.ob id _ b es hid hρ
      have hV:=ywi hr v s.H (ybx.refl _) (ybm s.H v) (ybx.refl _) X hv
      have hX:=yom hvs hV
      have hlx:=yce hX
      have hxs:X.cells.toList.length=X.cells.size:=by simp
      have hcs:C.toList.length=C.size:=by simp
      obtain ⟨g1,g2,g3,g4⟩:=ygt hC hrow
      have hle:i * es + f + ti.size≤C.size:=by
        rw [Nat.succ_mul] at g2; omega
      have hrun:=yxt (P:=P) (w:=w) ht (o:=i * es + f) (X:=X) (by omega) (ylh c5 hX) hb hu hle
      refine ⟨_,hrun,rfl,rfl,ρ,?_⟩
      obtain ⟨k1,k2,k3,k4,k5,k6⟩:=yjd b e fr X.cells.toList (i * es + f) w C hb
      have hwrite:∀ o,¬ yiy es o (.arr es' rows leak)→(ykv C (i * es + f) X.cells.toList)[o]? = C[o]?:=by
        intro o ho
        rw [yib,if_neg]
        intro hh
        apply ho
        simp only [yiy]
        have:leak * es≤i * es:=Nat.mul_le_mul_right _ c3
        omega
      obtain ⟨hfr,hrep⟩:=ypd (H':=H') (ob':=.arr es' (rows.set i (ych row f vs)) leak) hr1 hid hρ hb k1 k2 k3 k4 k5 k6 (yfv _ _ _) hwrite (fun k=>ygd h k) (fun _ hh=>hh)
      refine ⟨hrep ⟨h0,hz,_,e,fr,k1,by rw [yfv]; exact hu,?_⟩,by simp [VR],yfh.refl _ _,(yhj fun b o=>ymw hl).trans hfr⟩
      refine ykw fun j r hj=>?_
      have hclen:(ykv C (i * es + f) X.cells.toList).toList.length=C.size:=by simp [yfv]
      by_cases hij:i=j
      ·subst hij
       have hlt:i < rows.length:=by
         rcases Nat.lt_or_ge i rows.length with hl | hl
         ·exact hl
         ·rw [List.getElem?_eq_none hl] at hrow; cases hrow
       rw [List.getElem?_set_self hlt] at hj
       obtain rfl:=Option.some.inj hj
       refine ⟨by rw [yfp]; exact g1,by rw [hclen]; rw [hcs] at g2; exact g2,?_,?_⟩
       rotate_left
       ·intro x hx
        obtain ⟨q,hq⟩:=List.mem_iff_getElem?.1 hx
        rw [List.getElem?_take] at hq
        split at hq
        ·rename_i hqlt
         rw [List.getElem?_drop,Array.getElem?_toList,yib] at hq
         split at hq
         ·exact ylh c5 hX x (List.mem_of_getElem? hq)
         ·refine g4 x (List.mem_of_getElem? (i:=q) ?_)
          rw [List.getElem?_take,if_pos hqlt,List.getElem?_drop,Array.getElem?_toList]
          exact hq
        ·cases hq
       refine ykc ?_ fun q a hq=>?_
       ·rw [yfp,List.length_take,List.length_drop,hclen]
        rw [Nat.succ_mul] at g2; omega
       ·have hqlt:q < es:=by
          have:q < (ych row f vs).length:=by
            rcases Nat.lt_or_ge q (ych row f vs).length with hl | hl
            ·exact hl
            ·rw [List.getElem?_eq_none hl] at hq; cases hq
          rw [yfp] at this; omega
        rw [List.getElem?_take,if_pos hqlt,List.getElem?_drop,Array.getElem?_toList,yib]
        rw [yjy] at hq
        split at hq
        ·rename_i hcond
         rw [if_pos (by rw [Nat.succ_mul] at g2; omega)]
         obtain ⟨x,q1,q2⟩:=ydp hX hq
         exact ⟨x,by rw [show i * es + q - (i * es + f) = q - f by omega]; exact q1,ydo hfr.stay _ _ _ _ (Ext.refl _) q2⟩
        ·rename_i hcond
         rw [if_neg (by omega)]
         obtain ⟨x,q1,q2⟩:=ydp g3 hq
         rw [List.getElem?_take,if_pos hqlt,List.getElem?_drop,Array.getElem?_toList] at q1
         exact ⟨x,q1,ydo hfr.stay _ _ _ _ (Ext.refl _) q2⟩
      ·rw [List.getElem?_set_ne hij] at hj
       obtain ⟨q1,q2,q3,q4⟩:=ygt hC hj
       refine ⟨q1,by rw [hclen]; rw [hcs] at q2; exact q2,?_⟩
       have heq:((ykv C (i * es + f) X.cells.toList).toList.drop (j * es)).take es=(C.toList.drop (j * es)).take es:=by
         apply List.ext_getElem?
         intro q
         rw [List.getElem?_take,List.getElem?_take]
         split
         ·rename_i hqlt
          rw [List.getElem?_drop,List.getElem?_drop,Array.getElem?_toList,Array.getElem?_toList,yib,if_neg]
          intro hh
          rcases Nat.lt_or_gt_of_ne hij with hlt | hlt
          ·have:(i + 1) * es≤j * es:=Nat.mul_le_mul_right _ hlt
           rw [Nat.succ_mul] at this; omega
          ·have:(j + 1) * es≤i * es:=Nat.mul_le_mul_right _ hlt
           rw [Nat.succ_mul] at this; omega
         ·rfl
       rw [heq]
       exact ⟨yel hfr.stay _ _ _ _ (Ext.refl _) q3,q4⟩
     ·cases h
    ·cases h
   ·cases h
  ·cases h
end
end Go.Proofs.YtgoachcogmlhcaaGreat.R
