/- Regions that draw their order: the region. -/
import Derived.Test.YtefjblgmnoheiaaRDrwF
import Derived.Orders
set_option linter.unusedVariables false
set_option linter.unusedSectionVars false
set_option linter.unusedSimpArgs false
noncomputable section
namespace Go.Proofs.Ytefjblgmnoheiaa.R
open Go
theorem numb_mem : ∀ {l : List Iop} {i j : Nat} {o : Iop}, (j, o) ∈ numb i l → ∃ t, j = i + t ∧ l[t]? = some o
  | [], i, j, o, h => by simp [numb] at h
  | x :: r, i, j, o, h => by
    simp only [numb, List.mem_cons, Prod.mk.injEq] at h
    rcases h with ⟨rfl, rfl⟩ | h
    · exact ⟨0, rfl, rfl⟩
    · obtain ⟨t, h1, h2⟩ := numb_mem h
      exact ⟨t + 1, by omega, h2⟩
theorem numb_has : ∀ {l : List Iop} {i t : Nat} {o : Iop}, l[t]? = some o → (i + t, o) ∈ numb i l
  | [], i, t, o, h => by simp at h
  | x :: r, i, t, o, h => by
    cases t with
    | zero => simp at h; subst h; simp [numb]
    | succ t =>
      simp only [List.getElem?_cons_succ] at h
      have := numb_has (i := i + 1) h
      rw [show i + (t + 1) = i + 1 + t by omega]
      simp only [numb]
      exact List.mem_cons_of_mem _ this
theorem numb_len : ∀ (l : List Iop) (i : Nat), (numb i l).length = l.length
  | [], i => rfl
  | x :: r, i => by simp [numb, numb_len r]
def Up (U : List (Nat × Iop)) : Prop := U.Pairwise fun p q => p.1 < q.1
theorem numb_up : ∀ (l : List Iop) (i : Nat), Up (numb i l)
  | [], i => by simp [numb, Up]
  | x :: r, i => by
    have := numb_up r (i + 1)
    simp only [numb, Up, List.pairwise_cons] at this ⊢
    refine ⟨fun p hp => ?_, this⟩
    obtain ⟨j, o⟩ := p
    obtain ⟨t, h1, h2⟩ := numb_mem hp
    simp only
    omega
theorem Up.nodup {U : List (Nat × Iop)} (h : Up U) : (U.map fun p => p.1).Nodup := by
  unfold Up at h
  unfold List.Nodup
  rw [List.pairwise_map]
  exact h.imp fun {a b} hab => Nat.ne_of_lt hab
theorem compOps_get {P : Program} {all : List Oper} : ∀ {l : List Oper} {ios : List Iop}, compOps P all l = some ios → ios.length = l.length ∧ ∀ (j : Nat) (o : Oper) (y : Iop), l[j]? = some o → ios[j]? = some y → compOp P all o = some y
  | [], ios, h => by
    simp only [compOps, Option.some.injEq] at h
    subst h
    exact ⟨rfl, by simp⟩
  | a :: l, ios, h => by
    simp only [compOps] at h
    split at h
    · rename_i io r h1 h2
      simp only [Option.some.injEq] at h
      subst h
      obtain ⟨g1, g2⟩ := compOps_get h2
      refine ⟨by simp [g1], fun j o y ho hy => ?_⟩
      cases j with
      | zero => simp at ho hy; subst ho; subst hy; exact h1
      | succ j => simp at ho hy; exact g2 j o y ho hy
    · cases h
section
variable {P : Program} {c : Cfg} {cl : Callee} {A : Nat → Nat → Prop} {E : Entry} {nt base : Nat}
theorem evNs_run {cl : Nat → Callee} {fp : Nat → Option Foot} : ∀ {l : List Iop} {i : Nat} {s sF : St} {fs : List Foot}, evNs c cl nt base l i s = some (sF, fs) → (∀ t f, fs[t]? = some f → fp (i + t) = some f) → RunU c cl nt base fp (numb i l) s sF
  | [], i, s, sF, fs, h, hf => by
    simp only [evNs, Option.some.injEq, Prod.mk.injEq] at h
    exact h.1.symm
  | o :: r, i, s, sF, fs, h, hf => by
    simp only [evNs] at h
    split at h
    · rename_i f s1 h1 h2
      split at h
      · rename_i sF' l' h3
        simp only [Option.some.injEq, Prod.mk.injEq] at h
        obtain ⟨rfl, rfl⟩ := h
        refine ⟨s1, f, h2, h1, hf 0 f (by simp), evNs_run h3 fun t g hg => ?_⟩
        have := hf (t + 1) g (by simpa using hg)
        rwa [show i + (t + 1) = i + 1 + t by omega] at this
      · cases h
    · cases h
theorem pairsF_spec {fs : List Foot} : ∀ {k : List (Nat × Nat)}, pairsF base fs k = true → ∀ i j, (i, j) ∈ k → pairO base i j fs[i]? fs[j]? = true
  | [], h, i, j, hm => by simp at hm
  | (a, b) :: r, h, i, j, hm => by
    simp only [pairsF, Bool.and_eq_true] at h
    rcases List.mem_cons.1 hm with e | hm
    · cases e; exact h.1
    · exact pairsF_spec h.2 i j hm
theorem okPair {fp : Nat → Option Foot} {k kk : List (Nat × Nat)} {i j : Nat} {x y : Iop} (h : pairChk i j x y = some kk) (hk : ∀ p ∈ kk, p ∈ k) (hp : ∀ i j, (i, j) ∈ k → pairO base i j (fp i) (fp j) = true) : OkPair base fp i j x y := by
  unfold pairChk at h
  split at h
  · rename_i hap
    refine ⟨apart_spec hap, fun fx fy h1 h2 v1 v2 l1 l2 => ?_⟩
    split at h
    · rename_i hq
      simp only [Bool.or_eq_true, Bool.and_eq_true] at hq
      rcases hq with hq | hq | ⟨q1, q2⟩
      · rw [v1 hq]
        have : wd x.op = 0 := by unfold wd; rw [hq]; rfl
        exact ⟨by simp [noFoot], by simp [noFoot], fun id _ => by omega, by simp [noFoot]⟩
      · rw [v2 hq]
        have : wd y.op = 0 := by unfold wd; rw [hq]; rfl
        exact ⟨by simp [noFoot], by simp [noFoot], by simp [noFoot], fun id _ => by omega⟩
      · have e1 : wd x.op = 0 := by unfold wd; rw [q1]; simp
        have e2 : wd y.op = 0 := by unfold wd; rw [q2]; simp
        obtain ⟨a1, a2⟩ := l1 q1
        obtain ⟨b1, b2⟩ := l2 q2
        exact ⟨by simp [a1], by simp [b1], fun id _ => by omega, fun id _ => by omega⟩
    · simp only [Option.some.injEq] at h
      subst h
      have := hp i j (hk _ (by simp))
      rw [h1, h2] at this
      exact pairF_spec (wd_le _) (wd_le _) this
  · cases h
theorem SR_eqv {s u : St} {m n : Nat} {F : Nat → Prop} {a : Act} {w : World} (h : SD A E nt base F m s a w) (he : Eqv u s) (hu : Disj u) (hn : m ≤ n) : SR A E nt ⟨u.env, u.loc, u.H, n⟩ a w := by
  obtain ⟨ρ, r1, r2, r3, r4, _⟩ := h.ex
  have hwr : ∀ b o, Wr ρ u.H b o → Wr ρ s.H b o := by
    rintro b o ⟨id, es, ob, h1, h2, h3⟩
    exact ⟨id, es, ob, by rw [← he.heap]; exact h1, h2, h3⟩
  have hst : Stay w (UU A ρ s.H) w (UU A ρ u.H) := Stay.less fun b o hu => hu.imp_right (hwr b o)
  refine ⟨hu, h.size, h.defers, ρ, ?_, fun t => ?_, ⟨r3.ext, r3.cl, Nat.le_trans r3.le hn⟩, ?_⟩
  · have r1' := Rep_sub (H' := u.H) r1 fun j o hj => by rw [← he.heap]; exact hj
    exact
      { ob := r1'.ob
        inj := r1'.inj
        ltH := fun i o hi => Nat.lt_of_lt_of_le (r1'.ltH i o hi) hn
        ltR := fun i x hi => Nat.lt_of_lt_of_le (r1'.ltR i x hi) hn
        ltA := r1'.ltA
        apart := r1'.apart }
  · have h1 := VR_mono hst _ _ ρ ρ (Ext.refl _) (r2 t)
    have h2 : (St.mk u.env u.loc u.H n).get t = s.get t := he.get t
    rw [h2]
    exact h1
  · exact r4.trans (Fr_less hwr)
theorem lt_of_getElem? {α : Type} {l : List α} {i : Nat} {x : α} (h : l[i]? = some x) : i < l.length := by
  rcases Nat.lt_or_ge i l.length with h' | h'
  · exact h'
  · rw [List.getElem?_eq_none h'] at h; cases h
/-- Any order that is left. -/
theorem drw_any {cl : Nat → Callee} (hcl : ∀ i, Sound P (cl i)) {ops : Array Oper} {ios : List Iop} {an : List Nat} {Q : Exit → Act → World → Prop} (hc : compOps P ops.toList ops.toList = some ios) {k : List (Nat × Nat)} {fp : Nat → Option Foot} (hD : DrawF ops.toList ios k an 0)
    (hk0 : ∀ i j, (i, j) ∈ k → pairO base i j (fp i) (fp j) = true) {sT : St} (hsT : Disj sT) {N : Nat} (hQ : ∀ a w m s F, SD A E nt base F m s a w → m ≤ N → Eqv sT s → Q .normal a w) :
    ∀ (U : List (Nat × Iop)) (listed : Array Bool) (s sF : St) (m : Nat) (a : Act) (w : World), Up U → (∀ j y, (j, y) ∈ U ↔ (ios[j]? = some y ∧ listed.getD j true = false)) → listed.size = ios.length →
      (∀ j a', listed.getD j true = true → an[j]? = some a' → ∀ b, Nat.testBit a' b = true → listed.getD b true = true) → FreshU base U s.H → SD A E nt base (fun i => ∃ y, (i, y) ∈ U) m s a w → m + U.length ≤ N →
      RunU c cl nt base fp U s sF → Eqv sT sF → wpAny P .any ops Q U.length listed a w := by
  intro U
  have hlen := (compOps_get hc).1
  have hcg := (compOps_get hc).2
  have hosz : ops.toList.length = ops.size := by simp
  generalize hn : U.length = n
  induction n generalizing U with
  | zero =>
    intro listed s sF m a w hup hU hsz hcl2 hfr hS hm hev hT
    have hU0 : U = [] := List.eq_nil_of_length_eq_zero hn
    subst hU0
    simp only [RunU] at hev
    subst hev
    refine ⟨?_, hQ a w m _ _ hS (by simp at hm; omega) hT⟩
    rw [List.eq_nil_iff_forall_not_mem]
    intro j hj
    obtain ⟨h1, o, h2, _⟩ := mem_ready.1 hj
    have hjl : j < ios.length := by
      have : j < ops.size := (Array.getElem?_eq_some_iff.1 h2).1
      omega
    exact absurd ((hU j ios[j]).2 ⟨List.getElem?_eq_getElem hjl, h1⟩) (by simp)
  | succ n ih =>
    intro listed s sF m a w hup hU hsz hcl2 hfr hS hm hev hT
    have getF : ∀ j, j < listed.size → listed.getD j true = false → listed.getD j false = false := fun j hj h => by
      simp [hj] at h ⊢; exact h
    have getT : ∀ j, listed.getD j false = true → listed.getD j true = true := fun j h => by
      rcases Nat.lt_or_ge j listed.size with hj | hj
      · simp [hj] at h ⊢; exact h
      · simp [Nat.not_lt.2 hj] at h
    have getT' : ∀ j, j < listed.size → listed.getD j true = true → listed.getD j false = true := fun j hj h => by
      simp [hj] at h ⊢; exact h
    refine ⟨fun hr => ?_, fun j hj => ?_⟩
    · exfalso
      cases U with
      | nil => simp at hn
      | cons p U' =>
        obtain ⟨j, y⟩ := p
        obtain ⟨g1, g2⟩ := (hU j y).1 (by simp)
        have hjl := lt_of_getElem? g1
        have hjo : ops[j]? = some (ops[j]'(by omega)) := by simp
        have : j ∈ Region.ready .any ops listed := by
          refine mem_ready.2 ⟨g2, _, hjo, fun e he hb => ?_⟩
          have hon := hD.on j (ops[j]'(by omega)) (Nat.zero_le _) (by rw [Array.getElem?_toList]; exact hjo) e (by simpa using he) hb
          refine getT' _ (by omega) ?_
          cases hlst : listed.getD e.on true with
          | true => rfl
          | false =>
            have hel : e.on < ios.length := by omega
            have hmem := (hU e.on ios[e.on]).2 ⟨List.getElem?_eq_getElem hel, hlst⟩
            rcases List.mem_cons.1 hmem with h | h
            · have := (Prod.mk.inj h).1; omega
            · have := (List.pairwise_cons.1 hup).1 _ h
              simp only at this
              omega
        rw [hr] at this
        cases this
    · obtain ⟨h1, o, h2, h3⟩ := mem_ready.1 hj
      have hjs : j < ops.size := (Array.getElem?_eq_some_iff.1 h2).1
      have hjl : j < ios.length := by omega
      have hyj : ios[j]? = some ios[j] := List.getElem?_eq_getElem hjl
      have hmem := (hU j ios[j]).2 ⟨hyj, h1⟩
      obtain ⟨pre, post, hsplit⟩ := List.append_of_mem hmem
      subst hsplit
      have hjan : j < an.length := by rw [hD.len]; omega
      have haj : an[j]? = some an[j] := List.getElem?_eq_getElem hjan
      have h2' : ops.toList[j]? = some o := by simpa using h2
      have hup' := hup
      rw [Up, List.pairwise_append] at hup'
      obtain ⟨up1, up2, up3⟩ := hup'
      have hpairs : ∀ p ∈ pre, ∃ kk, pairChk p.1 j p.2 ios[j] = some kk ∧ ∀ q ∈ kk, q ∈ k := by
        intro p hp
        have hpm := (hU p.1 p.2).1 (List.mem_append_left _ hp)
        have hplt : p.1 < j := up3 p hp (j, ios[j]) (by simp)
        refine hD.pair j _ _ (Nat.zero_le _) hyj haj p.1 p.2 hplt hpm.1 ?_
        cases hb : Nat.testBit an[j] p.1 with
        | false => rfl
        | true =>
          exfalso
          obtain ⟨e, e1, e2, e3⟩ := hD.anc j o _ (Nat.zero_le _) h2' haj p.1 hb
          have hon := h3 e (by simpa using e1) e2
          have hon' := getT _ hon
          rcases e3 with e3 | ⟨a', e4, e5⟩
          · rw [← e3] at hon'
            rw [hon'] at hpm
            cases hpm.2
          · have := hcl2 e.on a' hon' e4 p.1 e5
            rw [this] at hpm
            cases hpm.2
      obtain ⟨u1, ff, b1, b0, bf, uF, b2, b3⟩ := bubble hS.disj hfr hup.nodup (fun p hp => by
        obtain ⟨kk, k1, k2⟩ := hpairs p hp
        exact okPair k1 k2 hk0) hev
      have hnd := hup.nodup
      have hne : ∀ p ∈ pre ++ post, p.1 ≠ j := by
        intro p hp
        rcases List.mem_append.1 hp with h | h
        · have := up3 p h _ (List.mem_cons_self ..)
          simp only at this; omega
        · have := (List.pairwise_cons.1 up2).1 p h
          simp only at this; omega
      have hsub : ∀ p ∈ pre ++ post, p ∈ pre ++ (j, ios[j]) :: post := by
        intro p hp
        rcases List.mem_append.1 hp with h | h
        · exact List.mem_append_left _ h
        · exact List.mem_append_right _ (List.mem_cons_of_mem _ h)
      have hfj : Fresh (base + j * 64) (base + j * 64 + wd (ios[j]).op) s.H := hfr (j, ios[j]) hmem
      have hstep := snd_evN (F' := fun i => ∃ y, (i, y) ∈ pre ++ post) (Q := Q) (K := wpAny P .any ops Q n (listed.setIfInBounds j true)) (hcl j) hS (⟨_, hmem⟩ : ∃ y, (j, y) ∈ pre ++ (j, ios[j]) :: post) hfj (hcg j o _ h2' hyj) b1 b0
        (fun i ⟨y, hy⟩ => ⟨⟨y, hsub _ hy⟩, hne _ hy⟩) (fun a' w' hs' => by
          have hln : (pre ++ post).length = n := by
            simp only [List.length_append, List.length_cons] at hn ⊢
            omega
          have hgd : ∀ i, (listed.setIfInBounds j true).getD i true = false ↔ (listed.getD i true = false ∧ i ≠ j) := by
            intro i
            by_cases hij : j = i
            · subst hij
              have : j < listed.size := by omega
              simp [this]
            · rw [getD_set_ne true hij]
              exact ⟨fun h => ⟨h, fun e => hij e.symm⟩, fun h => h.1⟩
          refine ih (pre ++ post) hln (listed.setIfInBounds j true) u1 uF (m + 1) a' w' ?_ ?_ ?_ ?_ ?_ hs' ?_ b2 (hT.trans b3)
          · refine hup.sublist ?_
            exact List.Sublist.append_left (List.sublist_cons_self _ _) _
          · intro i y
            rw [hgd]
            constructor
            · intro hm
              obtain ⟨q1, q2⟩ := (hU i y).1 (hsub _ hm)
              exact ⟨q1, q2, hne _ hm⟩
            · rintro ⟨q1, q2, q3⟩
              have := (hU i y).2 ⟨q1, q2⟩
              rcases List.mem_append.1 this with h | h
              · exact List.mem_append_left _ h
              · rcases List.mem_cons.1 h with h | h
                · exact absurd (Prod.mk.inj h).1 q3
                · exact List.mem_append_right _ h
          · simpa using hsz
          · intro i a' hi ha' b hb
            have hmono : ∀ i, listed.getD i true = true → (listed.setIfInBounds j true).getD i true = true := by
              intro i hi
              cases hh : (listed.setIfInBounds j true).getD i true with
              | true => rfl
              | false => rw [((hgd i).1 hh).1] at hi; cases hi
            by_cases hij : i = j
            · subst hij
              rw [haj] at ha'
              obtain rfl := Option.some.inj ha'
              obtain ⟨e, e1, e2, e3⟩ := hD.anc i o _ (Nat.zero_le _) h2' haj b hb
              have hon' := getT _ (h3 e (by simpa using e1) e2)
              rcases e3 with e3 | ⟨a', e4, e5⟩
              · rw [e3]; exact hmono _ hon'
              · exact hmono _ (hcl2 e.on a' hon' e4 b e5)
            · rw [getD_set_ne true (fun e => hij e.symm)] at hi
              exact hmono _ (hcl2 i a' hi ha' b hb)
          · obtain ⟨v0, g0, n0, hst⟩ := step hS.disj b1 b0 hfj
            exact FreshU.next hst (fun p hp => hfr p (hsub p hp)) (fun p hp => hne p hp)
          · omega)
      unfold wpOp
      simp only [h2]
      split
      · rename_i hw
        rw [if_pos hw] at hstep
        exact .inl hstep
      · rename_i hw
        rw [if_neg hw] at hstep
        exact hstep
theorem drawFOk (hP : c.P.follows .mixedOrders = true) {cl : Nat → Callee} (hcl : ∀ i, Sound c.P (cl i)) {nt : Nat} {A : Nat → Nat → Prop} {E : Entry} {id : Nat} {ops : Array Oper} {ios : List Iop} {k : List (Nat × Nat)} {s s' : St} {a : Act} {w : World} {Q : Exit → Act → World → Prop}
    (hc : compOps c.P ops.toList ops.toList = some ios) (hk : drawGo ios ops.toList ios [] = some k) (hS : SR A E nt s a w) (h : drawF c cl nt k ios s = some s') (hQ : ∀ a' w', SR A E nt s' a' w' → Q .normal a' w') : (Code.region id ops true).wp c.P Q a w := by
  obtain ⟨an, hD⟩ := drawGo_spec (ops := ops.toList) (ios := ios) (pre := []) (ipre := []) rfl rfl rfl rfl hk
  simp only [List.nil_append, List.length_nil] at hD
  unfold drawF at h
  cases hev : evNs c cl nt s.nx ios 0 s with
  | none => rw [hev] at h; cases h
  | some pr =>
    obtain ⟨sF, fs⟩ := pr
    rw [hev] at h
    simp only at h
    split at h
    · rename_i hst
      simp only [Option.some.injEq] at h
      subst h
      have hrun := evNs_run (fp := fun i => fs[i]?) hev (fun t f ht => by simpa using ht)
      have hlen := (compOps_get hc).1
      have hosz : ops.toList.length = ops.size := by simp
      have hfr0 : FreshU s.nx (numb 0 ios) s.H := by
        obtain ⟨ρ, r1, _⟩ := hS.ex
        intro p hp k0 h1 h2
        cases hh : lk s.H k0 with
        | none => rfl
        | some o => have := r1.ltH _ o hh; omega
      have hnd : ((numb 0 ios).map (fun p => p.1)).Nodup := (numb_up ios 0).nodup
      have hdF := RunU.disj hS.disj hfr0 hnd hrun
      refine wp_region_any hP ?_
      have hfuel : ops.size = (numb 0 ios).length := by rw [numb_len]; omega
      rw [hfuel]
      obtain ⟨ρ, r1, r2, r3, r4⟩ := hS.ex
      have hsm := SameMem.drawn w (w.drawn + 1)
      have hfree : ∀ j, s.nx ≤ j → ρ j = none := fun j hj => by
        cases hh : ρ j with
        | none => rfl
        | some x => have := r1.ltR _ x hh; omega
      refine drw_any (A := A) (E := E) (base := s.nx) (fp := fun i => fs[i]?) (sT := sF) (N := s.nx + 65 * ios.length) hcl hc hD (pairsF_spec hst) hdF (fun a' w' m' s1 F hs1 hm he => ?_) (numb 0 ios) _ s sF (s.nx + 64 * ios.length) a _ (numb_up _ _) ?_ ?_ ?_ hfr0 ?_ ?_ hrun ⟨fun _ => rfl, fun _ => rfl, hdF⟩
      · exact hQ a' w' (SR_eqv hs1 he hdF hm)
      · intro j y
        constructor
        · intro hm
          obtain ⟨t, h1, h2⟩ := numb_mem hm
          have : j = t := by omega
          subst this
          have hj := lt_of_getElem? h2
          refine ⟨h2, ?_⟩
          have : j < (numb 0 ios).length := by rw [numb_len]; exact hj
          simp [this]
        · rintro ⟨h1, _⟩
          have := numb_has (i := 0) h1
          simpa using this
      · simp [numb_len]
      · intro j a' hj ha' b hb
        exfalso
        have : j < (numb 0 ios).length := by
          rw [numb_len, hlen, ← hD.len]
          exact lt_of_getElem? ha'
        simp [this] at hj
      · refine ⟨hS.disj, hS.size, hS.defers, r3.le, ?_, ρ, ?_, fun t => VR_mono (hsm.stay _) _ _ _ _ (Ext.refl _) (r2 t), ⟨r3.ext, r3.cl, Nat.le_trans r3.le (Nat.le_add_right _ _)⟩, r4.trans (hsm.fr ρ s.H), fun i _ t ht _ => hfree t (by omega)⟩
        · rintro i ⟨y, hy⟩
          obtain ⟨t, h1, h2⟩ := numb_mem hy
          have := lt_of_getElem? h2
          omega
        · exact Rep_up (hsm.rep r1) (Nat.le_add_right _ _)
      · rw [numb_len]; omega
    · cases h
theorem drawOk (hP : c.P.follows .mixedOrders = true) : DrawOk c drawA := by
  intro cl hcl nt A E id ops ios k s s' a w Q hc hk hS h hQ
  exact drawFOk hP (fun _ => hcl) hc hk hS h hQ
end
end Go.Proofs.Ytefjblgmnoheiaa.R
