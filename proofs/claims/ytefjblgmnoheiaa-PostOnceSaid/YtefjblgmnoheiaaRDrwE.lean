/- Regions that draw their order: one step of the program. -/
import Derived.Test.YtefjblgmnoheiaaRDrwD
set_option linter.unusedVariables false
set_option linter.unusedSectionVars false
set_option linter.unusedSimpArgs false
noncomputable section
namespace Go.Proofs.Ytefjblgmnoheiaa.R
open Go
/-! ### A place under the name that was kept for it -/
theorem Rep_to {A : Nat → Nat → Prop} {ρ : Rho} {Ha Hb : Heap} {n m q : Nat} {w : World} (hr : Rep A ρ Ha n w) (hH : ∀ k, lk Hb k = if k = q then lk Ha m else if k = m then none else lk Ha k) (hq : ρ q = none) (hqn : q < n) :
    Rep A (fun k => if k = q then ρ m else ρ k) Hb n w ∧ (∀ b o, Wr (fun k => if k = q then ρ m else ρ k) Hb b o → Wr ρ Ha b o) ∧ Ext ρ (fun k => if k = q then ρ m else ρ k) := by
  have hext : Ext ρ (fun k => if k = q then ρ m else ρ k) := by
    intro k x hx
    have : k ≠ q := fun e => by subst e; rw [hq] at hx; cases hx
    simp only [this, if_false]
    exact hx
  have old : ∀ k o x, lk Hb k = some o → (if k = q then ρ m else ρ k) = some x → ∃ k', lk Ha k' = some o ∧ ρ k' = some x ∧ ((k = q ∧ k' = m) ∨ (k ≠ q ∧ k ≠ m ∧ k' = k)) := by
    intro k o x g1 g2
    rw [hH] at g1
    by_cases hk : k = q
    · rw [if_pos hk] at g1 g2
      exact ⟨m, g1, g2, .inl ⟨hk, rfl⟩⟩
    · rw [if_neg hk] at g1 g2
      by_cases hm : k = m
      · rw [if_pos hm] at g1; cases g1
      · rw [if_neg hm] at g1
        exact ⟨k, g1, g2, .inr ⟨hk, hm, rfl⟩⟩
  have hw : ∀ b o, Wr (fun k => if k = q then ρ m else ρ k) Hb b o → Wr ρ Ha b o := by
    rintro b o ⟨i, es, ob, g1, g2, g3⟩
    obtain ⟨k', h1, h2, _⟩ := old i ob _ g1 g2
    exact ⟨k', es, ob, h1, h2, g3⟩
  refine ⟨?_, hw, hext⟩
  exact
    { ob := fun i o b es g1 g2 => by
        obtain ⟨k', h1, h2, _⟩ := old i o _ g1 g2
        exact ObR_mono (Stay.less fun b o hu => hu.imp_right (hw b o)) hext rfl (hr.ob k' o b es h1 h2)
      inj := fun i j oi oj b ei ej g1 g2 g3 g4 => by
        obtain ⟨i', h1, h2, h3⟩ := old i oi _ g1 g3
        obtain ⟨j', h4, h5, h6⟩ := old j oj _ g2 g4
        have := hr.inj i' j' oi oj b ei ej h1 h4 h2 h5
        rcases h3 with ⟨rfl, rfl⟩ | ⟨a1, a2, rfl⟩ <;> rcases h6 with ⟨rfl, rfl⟩ | ⟨a3, a4, rfl⟩
        · rfl
        · exact absurd this.symm a4
        · exact absurd this a2
        · exact this
      ltH := fun i o g1 => by
        rw [hH] at g1
        by_cases hk : i = q
        · omega
        · rw [if_neg hk] at g1
          split at g1
          · cases g1
          · exact hr.ltH i o g1
      ltR := fun i x g1 => by
        change (if i = q then ρ m else ρ i) = some x at g1
        split at g1
        · omega
        · exact hr.ltR i x g1
      ltA := hr.ltA
      apart := fun i o b es off g1 g2 => by
        obtain ⟨k', h1, h2, _⟩ := old i o _ g1 g2
        exact hr.apart k' o b es off h1 h2 }
/-- A state amidst such a region: F: the operations still to be met. -/
structure SD (A : Nat → Nat → Prop) (E : Entry) (nt base : Nat) (F : Nat → Prop) (m : Nat) (s : St) (a : Act) (w : World) : Prop where
  disj : Disj s
  size : a.tmps.size = nt
  defers : a.defers = []
  le : E.m ≤ base
  lt : ∀ i, F i → base + i * 64 + 64 ≤ m
  ex : ∃ ρ, Rep A ρ s.H m w ∧ Vals w (UU A ρ s.H) ρ s a ∧ Ext2 E.ρ E.m ρ m ∧ Fr E.ρ E.H E.w ρ s.H w ∧ ∀ i, F i → ∀ t, base + i * 64 ≤ t → t < base + i * 64 + 64 → ρ t = none
section
variable {P : Program} {c : Cfg} {cl : Callee} {A : Nat → Nat → Prop} {E : Entry} {nt base m : Nat} {F F' : Nat → Prop} {s s1 : St} {a : Act} {w w' : World} {v : AV} {x : Value}
theorem SD.sr (h : SD A E nt base F m s a w) : SR A E nt (atN s m) a w := by
  obtain ⟨ρ, h1, h2, h3, h4, _⟩ := h.ex
  exact ⟨h.disj, h.size, h.defers, ρ, h1, h2, h3, h4⟩
theorem SD_post (h : SD A E nt base F m s a w) {ρ ρ2 : Rho} {m' : Nat} (hv : Vals w (UU A ρ s.H) ρ s a) (hf0 : Fr E.ρ E.H E.w ρ s.H w) (he : s1.env = s.env) (hl : s1.loc = s.loc) (hr : Rep A ρ2 s1.H m' w') (hx : VR w' (UU A ρ2 s1.H) ρ2 v x) (hE : Ext2 E.ρ E.m ρ2 m') (hext : Ext ρ ρ2) (hf : Fr ρ s.H w ρ2 s1.H w')
    (hm : ∀ i, F' i → base + i * 64 + 64 ≤ m') (hF : ∀ i, F' i → ∀ t, base + i * 64 ≤ t → t < base + i * 64 + 64 → ρ2 t = none) {d : Option Nat} (hd : dstOk nt d = true) : SD A E nt base F' m' (s1.putO d v) (a.put d x) w' := by
  obtain ⟨g1, g2, g3, _⟩ := put_step (s := s) (disj_of h.disj he hl) d v he hl
  obtain ⟨k1, k2, k3⟩ := act_put h.size hd x
  refine ⟨g2, k2, by rw [k3]; exact h.defers, h.le, hm, ρ2, by rw [g3]; exact hr, fun t => ?_, hE, by rw [g3]; exact hf0.trans hf, hF⟩
  rw [g1, k1, g3]
  split
  · exact hx
  · exact VR_fr hf hext (hv t)
theorem Rep_up {ρ : Rho} {H : Heap} {n n' : Nat} (hr : Rep A ρ H n w) (hn : n ≤ n') : Rep A ρ H n' w where
  ob := hr.ob
  inj := hr.inj
  ltH i o hi := Nat.lt_of_lt_of_le (hr.ltH i o hi) hn
  ltR i x hi := Nat.lt_of_lt_of_le (hr.ltR i x hi) hn
  ltA := hr.ltA
  apart := hr.apart
/-- One operation of such a region. -/
theorem snd_evN (hcl : Sound P cl) {ops : Array Oper} {o : Oper} {y : Iop} {j : Nat} (h : SD A E nt base F m s a w) (hj : F j) (hjH : Fresh (base + j * 64) (base + j * 64 + wd y.op) s.H) (hc : compOp P ops.toList o = some y) {u1 : St} {f : Foot} (he : evN c cl nt base j y s = some u1) (hft : footO c s y = some f)
    (hF' : ∀ i, F' i → F i ∧ i ≠ j) {K : Act → World → Prop} {Q : Exit → Act → World → Prop} (hK : ∀ a' w', SD A E nt base F' (m + 1) u1 a' w' → K a' w') :
    if Region.wanted o (yielded ops a.tmps) then o.wp P a w K Q else K (a.put o.dst undef) w := by
  obtain ⟨h1, hle⟩ := evN_inv he
  obtain ⟨hdst, hcase⟩ := evIO_inv h1
  obtain ⟨ρ, r1, r2, r3, r4, r5⟩ := h.ex
  have hlt := h.lt j hj
  have hbase := h.le
  have hm' : ∀ i, F' i → base + i * 64 + 64 ≤ m + 1 := fun i hi => Nat.le_succ_of_le (h.lt i (hF' i hi).1)
  rcases hcase with ⟨hw, v, s1, hv, rfl⟩ | ⟨hw, rfl⟩
  · rw [atN_want] at hw
    obtain ⟨p1, p2, p3⟩ := want_spec h.sr hc hw
    rw [p3]
    simp only [if_true]
    by_cases hnew : newB y.op = true
    · obtain ⟨ob, H1, fv, hN⟩ := at_new hnew hv
      have hs1 := hN.s1
      have hvv := hN.v
      subst hs1
      subst hvv
      have hwd : wd y.op = 64 := by
        cases hy : y.op <;> rw [hy] at hnew <;> simp [newB] at hnew <;> rfl
      refine goes (c := c) hcl (s := atN s m) (s' := ⟨s.env, s.loc, (m, ob) :: H1, m + 1⟩) r1 r2 p1 (hN.at_ m) K Q fun x w' hp => hK _ _ ?_
      obtain ⟨_, _, ρ', q1, q2, q3, q4⟩ := hp
      have hqn : ρ' (base + j * 64) = none := q3.cl _ (show base + j * 64 < m by omega) (r5 j hj _ (Nat.le_refl _) (by omega))
      have hqH : lk H1 (base + j * 64) = none := hN.sub _ (hjH _ (Nat.le_refl _) (by omega))
      have hmH : lk H1 m = none := hN.sub _ (by
        cases hh : lk s.H m with
        | none => rfl
        | some o' => have := r1.ltH m o' hh; omega)
      obtain ⟨t1, t2, t3⟩ := Rep_to (m := m) (q := base + j * 64) (Hb := (base + j * 64, ob) :: H1) q1 (fun i => by
        show lk ((base + j * 64, ob) :: H1) i = if i = base + j * 64 then lk ((m, ob) :: H1) m else if i = m then none else lk ((m, ob) :: H1) i
        simp only [lk_cons, if_true]
        by_cases hi : i = base + j * 64
        · subst hi; simp
        · have e1 : ¬ base + j * 64 = i := fun e => hi e.symm
          rw [if_neg e1, if_neg hi]
          by_cases hi2 : i = m
          · subst hi2; simp [hmH]
          · have e2 : ¬ m = i := fun e => hi2 e.symm
            rw [if_neg hi2, if_neg e2]) hqn (show base + j * 64 < m + 1 by omega)
      rw [← p2]
      have hfr2 : Fr ρ s.H w (fun i => if i = base + j * 64 then ρ' m else ρ' i) ((base + j * 64, ob) :: H1) w' :=
        q4.trans
          { size := Nat.le_refl _
            os := rfl
            tape := rfl
            output := rfl
            cells := fun b C e fr hb => ⟨C, hb, rfl, fun _ _ => rfl⟩
            other := fun b ob hb _ => hb
            shrink := fun b o _ hw => t2 b o hw }
      refine SD_post (s1 := ⟨s.env, s.loc, (base + j * 64, ob) :: H1, base + j * 64 + 1⟩) h r2 r4 rfl rfl t1 ?_ ?_ (q3.ext.trans t3) hfr2 hm' ?_ hdst
      · have hst : Stay w' (UU A ρ' ((m, ob) :: H1)) w' (UU A (fun i => if i = base + j * 64 then ρ' m else ρ' i) ((base + j * 64, ob) :: H1)) := Stay.less fun b o hu => hu.imp_right (t2 b o)
        rcases hN.nv with rfl | ⟨es, len, ex, rfl⟩ | ⟨rows, rfl⟩
        · simp only [VR] at q2 ⊢
          simpa using q2
        · have q5 := VR_mono hst _ _ _ _ (Ext.refl _) q2
          simp only [VR] at q5 ⊢
          simpa using q5
        · exact VR_free _ _ rfl (VR_mono hst _ _ _ _ (Ext.refl _) q2)
      · refine ⟨r3.ext.trans (q3.ext.trans t3), fun i hi h0 => ?_, Nat.le_trans r3.le (Nat.le_succ _)⟩
        have e1 : i ≠ base + j * 64 := by omega
        simp only [e1, if_false]
        exact q3.cl i (Nat.lt_of_lt_of_le hi r3.le) (r3.cl i hi h0)
      · intro i hi t ht1 ht2
        obtain ⟨f1, f2⟩ := hF' i hi
        have e1 : t ≠ base + j * 64 := by omega
        simp only [e1, if_false]
        exact q3.cl _ (show t < m by have := h.lt i f1; omega) (r5 i f1 t ht1 ht2)
    · by_cases hlent : lentB c s y.op = true
      · have hcall : ∃ fn L, ((∃ as, y.op = .call fn as ∧ L = s.evs as) ∨ ∃ g as pre post, y.op = .callv g as ∧ s.ev g = .fn (.func fn) pre post ∧ L = pre ++ (s.evs as ++ post)) ∧ c.fz fn = false ∧ callAV c cl (atN s (base + j * 64)) fn L = some (v, s1) := by
          cases hy : y.op <;> rw [hy] at hlent hv <;> simp only [lentB, Bool.false_eq_true] at hlent
          case call fn as =>
            simp only [evOp, atN_evs] at hv
            exact ⟨fn, _, .inl ⟨as, rfl, rfl⟩, by simpa using hlent, hv⟩
          case callv g as =>
            simp only [evOp, atN_evs, atN_ev] at hv
            cases hg : s.ev g <;> rw [hg] at hlent hv <;> try (exact absurd hlent Bool.false_ne_true)
            case fn fnv pre post =>
              cases fnv <;> try (exact absurd hlent Bool.false_ne_true)
              case func fn =>
                exact ⟨fn, _, .inr ⟨g, as, pre, post, rfl, hg, rfl⟩, by simpa using hlent, hv⟩
        obtain ⟨fn, L, hip, hfz, hcl1⟩ := hcall
        have hcB : callB y.op = true := by
          rcases hip with ⟨as, e, _⟩ | ⟨g, as, pre, post, e, _⟩ <;> rw [e] <;> rfl
        obtain ⟨xs, x1, x2⟩ := call_run r2 (comp_call p1 hcB) hip
        unfold callAV at hcl1
        rw [if_neg (by simp [hfz])] at hcl1
        simp only at hcl1
        have hH : (atN s (base + j * 64)).H = s.H := rfl
        rw [hH] at hcl1
        split at hcl1
        · rename_i r H1 n1 hcr
          simp only [Option.some.injEq, Prod.mk.injEq] at hcl1
          obtain ⟨rfl, rfl⟩ := hcl1
          obtain ⟨fn', k1, k2, k3⟩ := hcl.fn hcr
          obtain ⟨q1, _, q3⟩ := reach_spec s.H fuelR L [] List.nodup_nil
          have hwd : wd y.op = 64 := by
            rcases hip with ⟨as, e, _⟩ | ⟨g, as, pre, post, e, _⟩ <;> rw [e] <;> rfl
          have hcnt : n1 - (reach s.H fuelR L []).length ≤ 64 := by
            obtain ⟨_, _, _, e⟩ := putO_spec (s := St.mk s.env s.loc (renH (backId (reach s.H fuelR L []) (reach s.H fuelR L []).length n1 (base + j * 64)) H1 ++ dropAll s.H (reach s.H fuelR L [])) (base + j * 64 + (n1 - (reach s.H fuelR L []).length))) h.disj y.dst (ren (backId (reach s.H fuelR L []) (reach s.H fuelR L []).length n1 (base + j * 64)) r)
            have h2 : base + j * 64 + (n1 - (reach s.H fuelR L []).length) ≤ base + j * 64 + 64 := Nat.le_trans (Nat.le_of_eq e.symm) hle
            omega
          unfold Oper.wp
          rw [x1, run_callFunc k1 k2 k3, Oper.upon_enter]
          refine Calls.mono (call_at hcl r1 x2 q1 (fun id hid => ?_) hcr (base + j * 64) (m + 1) (fun t ht1 ht2 => ⟨r5 j hj t ht1 (by omega), hjH t ht1 (by omega)⟩) (by omega) (Nat.le_succ _)) fun e w' hp => ?_
          · rcases q3 id hid with hh | hh
            · simp at hh
            · exact hh
          · obtain ⟨xv, ρ2, rfl, g1, g2, g3, g4, g5⟩ := hp
            refine hK _ _ ?_
            rw [← p2]
            refine SD_post (s1 := { (atN s (base + j * 64)) with H := renH (backId (reach s.H fuelR L []) (reach s.H fuelR L []).length n1 (base + j * 64)) H1 ++ dropAll s.H (reach s.H fuelR L []), nx := base + j * 64 + (n1 - (reach s.H fuelR L []).length) }) h r2 r4 rfl rfl g1 g2 ⟨r3.ext.trans g3, fun k hk h0 => g4 k (r3.cl k hk h0) (by omega), Nat.le_trans r3.le (Nat.le_succ _)⟩ g3 g5 hm' (fun i hi t ht1 ht2 => ?_) hdst
            obtain ⟨f1, f2⟩ := hF' i hi
            exact g4 t (r5 i f1 t ht1 ht2) (by omega)
        · cases hcl1
      · have hat := at_same (by simpa using hnew) (by simpa using hlent) hv m
        refine goes (c := c) hcl (s := atN s m) (s' := atN s1 m) r1 r2 p1 hat K Q fun x w' hp => hK _ _ ?_
        obtain ⟨q1, q2, ρ', q3, q4, q5, q6⟩ := hp
        rw [← p2]
        refine SD_post (s1 := s1) (ρ2 := ρ') h r2 r4 q1 q2 (Rep_up q3 (Nat.le_succ m)) q4 ?_ q5.ext q6 hm' ?_ hdst
        · have := r3.trans q5
          exact ⟨this.ext, this.cl, Nat.le_trans r3.le (Nat.le_succ _)⟩
        · intro i hi t ht1 ht2
          obtain ⟨f1, f2⟩ := hF' i hi
          exact q5.cl _ (show t < m by have := h.lt i f1; omega) (r5 i f1 t ht1 ht2)
  · rw [atN_want] at hw
    obtain ⟨p1, p2, p3⟩ := want_spec h.sr hc hw
    rw [p3]
    simp only [Bool.false_eq_true, if_false]
    rw [← p2]
    exact hK _ _ (SD_post (s1 := atN s (base + j * 64)) (ρ2 := ρ) h r2 r4 rfl rfl (Rep_up r1 (Nat.le_succ m)) (by simp [VR]) ⟨r3.ext, r3.cl, Nat.le_trans r3.le (Nat.le_succ _)⟩ (Ext.refl _) (Fr.refl _ _ _) hm' (fun i hi => r5 i (hF' i hi).1) hdst)
end
end Go.Proofs.Ytefjblgmnoheiaa.R
