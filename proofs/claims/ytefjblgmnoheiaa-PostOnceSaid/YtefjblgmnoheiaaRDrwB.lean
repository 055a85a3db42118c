/- Regions that draw their order: each operation does elsewhere what it does here, where it touches the same. -/
import Derived.Test.YtefjblgmnoheiaaRDrwA
set_option linter.unusedVariables false
set_option linter.unusedSectionVars false
set_option linter.unusedSimpArgs false
noncomputable section
namespace Go.Proofs.Ytefjblgmnoheiaa.R
open Go
/-- What is touched is the same. -/
structure Agree (f : Foot) (H H' : Heap) : Prop where
  w : ∀ id ∈ f.w, lk H' id = lk H id
  r : ∀ id ∈ f.r, LEq (lk H' id) (lk H id)
  l : ∀ id ∈ f.l, LEq (lk H' id) (lk H id)
def Fresh (q n : Nat) (H : Heap) : Prop := ∀ k, q ≤ k → k < n → lk H k = none
/-- What is written, or new, is as in H1; elsewhere more is read. -/
def Eff (f : Foot) (g : Nat → Nat) (q n : Nat) (H1 H H' : Heap) : Prop :=
  ∀ k, lk H' k = if k ∈ f.w ∨ (q ≤ k ∧ k < n) then lk H1 k else (lk H k).map (leakOb (g k))
structure Loc (c : Cfg) (cl : Callee) (ip : IP) (s : St) (v : AV) (s1 : St) (f : Foot) (g : Nat → Nat) : Prop where
  env : s1.env = s.env
  loc : s1.loc = s.loc
  nx : s.nx ≤ s1.nx
  g0 : ∀ k, k ∉ f.l → g k = 0
  eff : Eff f g s.nx s1.nx s1.H s.H s1.H
  same : ∀ s', (∀ x ∈ opsOf ip, s'.ev x = s.ev x) → s'.nx = s.nx → Agree f s.H s'.H → Fresh s.nx s1.nx s'.H → foot c s' ip = some f ∧ ∃ s1', evOp c cl s' ip = some (v, s1') ∧ s1'.env = s'.env ∧ s1'.loc = s'.loc ∧ s1'.nx = s1.nx ∧ Eff f g s.nx s1.nx s1.H s'.H s1'.H
def g0 : Nat → Nat := fun _ => 0
section
variable {c : Cfg} {cl : Callee} {s s' s1 : St} {v : AV} {f : Foot}
theorem Eff.same {q : Nat} {H H' : Heap} (hw : ∀ id ∈ f.w, lk H' id = lk H id) : Eff f g0 q q H H' H' := by
  intro k
  split
  · rename_i h
    rcases h with h | h
    · exact hw k h
    · omega
  · exact (leak_id _).symm
theorem Eff.add {ob : Ob} (hn : s'.nx = s.nx) (hw : ∀ id ∈ f.w, lk s'.H id = lk s.H id) : Eff f g0 s.nx (s.nx + 1) (s.add ob).H s'.H (s'.add ob).H := by
  intro k
  simp only [St.add, lk_cons, hn]
  by_cases hk : s.nx = k
  · subst hk; simp
  · rw [if_neg hk, if_neg hk]
    split
    · rename_i h
      rcases h with h | h
      · exact hw k h
      · omega
    · exact (leak_id _).symm
/-- Nothing is written. -/
theorem loc_keep {ip : IP} {r l : List Nat} (hf : foot c s ip = some ⟨r, l, []⟩) (h : evOp c cl s ip = some (v, s)) (hs : ∀ s', (∀ x ∈ opsOf ip, s'.ev x = s.ev x) → Agree ⟨r, l, []⟩ s.H s'.H → foot c s' ip = some ⟨r, l, []⟩ ∧ evOp c cl s' ip = some (v, s')) : Loc c cl ip s v s ⟨r, l, []⟩ g0 :=
  ⟨rfl, rfl, Nat.le_refl _, fun _ _ => rfl, Eff.same (by simp), fun s' he hn ha _ => ⟨(hs s' he ha).1, s', (hs s' he ha).2, rfl, rfl, hn, by rw [← hn]; exact Eff.same (by simp)⟩⟩
/-- One object is new. -/
theorem loc_new {ip : IP} {ob : Ob} (hf : foot c s ip = some f) (hs : ∀ s', (∀ x ∈ opsOf ip, s'.ev x = s.ev x) → s'.nx = s.nx → Agree f s.H s'.H → foot c s' ip = some f ∧ evOp c cl s' ip = some (v, s'.add ob)) : Loc c cl ip s v (s.add ob) f g0 :=
  ⟨rfl, rfl, Nat.le_succ _, fun _ _ => rfl, Eff.add rfl (fun _ _ => rfl), fun s' he hn ha _ => ⟨(hs s' he hn ha).1, s'.add ob, (hs s' he hn ha).2, rfl, rfl, by simp [St.add, hn], Eff.add hn ha.w⟩⟩
theorem newArr_inv {es : Nat} {rows : List (List AV)} (h : newArr s es rows = some (v, s1)) : rows.length ≤ limN ∧ v = .own es s.nx 0 rows.length false ∧ s1 = s.add (.arr es rows 0) := by
  unfold newArr at h
  split at h
  · rename_i hl
    simp only [Option.some.injEq, Prod.mk.injEq] at h
    exact ⟨hl, h.1.symm, h.2.symm⟩
  · cases h
theorem newArr_at {es : Nat} {rows : List (List AV)} (hl : rows.length ≤ limN) (hn : s'.nx = s.nx) : newArr s' es rows = some (.own es s.nx 0 rows.length false, s'.add (.arr es rows 0)) := by
  unfold newArr
  rw [if_pos hl, hn]
theorem Agree.rr (h : Agree f s.H s'.H) : ∀ id ∈ f.r, rowsAt s'.H id = rowsAt s.H id := fun id hid => (h.r id hid).rows
theorem Agree.rl (h : Agree f s.H s'.H) : ∀ id ∈ f.l, rowsAt s'.H id = rowsAt s.H id := fun id hid => (h.l id hid).rows
theorem Agree.rw (h : Agree f s.H s'.H) : ∀ id ∈ f.w, rowsAt s'.H id = rowsAt s.H id := fun id hid => by unfold rowsAt; rw [h.w id hid]
theorem foot_val {ip : IP} (hp : valB ip = true) : foot c s ip = some noFoot := by
  cases ip <;> simp [valB] at hp <;> rfl
/-- append -/
theorem loc_app {es : Nat} {x y : Opd} (h : appAV es s (s.ev x) (s.ev y) = some (v, s1)) : ∃ g, Loc c cl (.app es x y) s v s1 ⟨idsV (s.ev y), [], idsV (s.ev x)⟩ g := by
  have hfoot : ∀ s' : St, (∀ z ∈ opsOf (.app es x y), s'.ev z = s.ev z) → foot c s' (.app es x y) = some ⟨idsV (s.ev y), [], idsV (s.ev x)⟩ := fun s' he => by
    simp only [foot, he x (by simp [opsOf]), he y (by simp [opsOf])]
  have h0 := h
  unfold appAV at h
  split at h
  · rename_i new hnew
    have hsrc : ∀ s' : St, Agree ⟨idsV (s.ev y), [], idsV (s.ev x)⟩ s.H s'.H → srcRows es s'.H (s.ev y) = some new := fun s' ha => by rw [srcRows_ids _ ha.rr, hnew]
    have wrap : ∀ rows, newArr s es rows = some (v, s1) → (∀ s' : St, Agree ⟨idsV (s.ev y), [], idsV (s.ev x)⟩ s.H s'.H → appAV es s' (s.ev x) (s.ev y) = newArr s' es rows) → ∃ g, Loc c cl (.app es x y) s v s1 ⟨idsV (s.ev y), [], idsV (s.ev x)⟩ g := by
      intro rows hn hs
      obtain ⟨k1, rfl, rfl⟩ := newArr_inv hn
      refine ⟨_, loc_new (hfoot s fun _ _ => rfl) fun s' he hn ha => ⟨hfoot s' he, ?_⟩⟩
      simp only [evOp, he x (by simp [opsOf]), he y (by simp [opsOf])]
      rw [hs s' ha]
      exact newArr_at k1 hn
    split at h
    · rename_i hb
      exact wrap _ h fun s' ha => by simp only [appAV, hb, hsrc s' ha]
    · rename_i es' rows ex hb
      split at h
      · rename_i hc
        split at h
        · rename_i hc2
          exact wrap _ h fun s' ha => by simp only [appAV, hb, hsrc s' ha]; rw [if_pos hc, if_pos hc2]
        · rename_i hc2
          split at h
          · rename_i hc3
            exact wrap _ h fun s' ha => by simp only [appAV, hb, hsrc s' ha]; rw [if_pos hc, if_neg hc2, if_pos hc3]
          · cases h
      · cases h
    · rename_i es' id off len ex hb
      have hw : ∀ s' : St, Agree ⟨idsV (s.ev y), [], idsV (s.ev x)⟩ s.H s'.H → lk s'.H id = lk s.H id := fun s' ha => ha.w id (by simp [hb, idsV])
      split at h
      · rename_i hc
        split at h
        · rename_i es2 rows leak hid
          split at h
          · rename_i hc2
            split at h
            · rename_i hc3
              exact wrap _ h fun s' ha => by simp only [appAV, hb, hsrc s' ha, hw s' ha, hid]; rw [if_pos hc, if_pos hc2, if_pos hc3]
            · rename_i hc3
              split at h
              · rename_i hc4
                exact wrap _ h fun s' ha => by simp only [appAV, hb, hsrc s' ha, hw s' ha, hid]; rw [if_pos hc, if_pos hc2, if_neg hc3, if_pos hc4]
              · cases h
          · rename_i hc2
            split at h
            · rename_i hc3
              simp only [Option.some.injEq, Prod.mk.injEq] at h
              obtain ⟨rfl, rfl⟩ := h
              have key : ∀ s' : St, s'.nx = s.nx → Eff ⟨idsV (s.ev y), [], idsV (s.ev x)⟩ g0 s.nx (s.nx + 1) ((s.setH (rmv s.H id)).add (.arr es (rows.take len ++ new) leak)).H s'.H ((s'.setH (rmv s'.H id)).add (.arr es (rows.take len ++ new) leak)).H := by
                intro s' hn k
                simp only [St.add, St.setH, lk_cons, lk_rmv, hn]
                by_cases hk : s.nx = k
                · subst hk; simp
                · rw [if_neg hk, if_neg hk]
                  by_cases hi : k = id
                  · subst hi; simp [hb, idsV]
                  · rw [if_neg hi, if_neg hi, if_neg]
                    · exact (leak_id _).symm
                    · rintro (hh | hh)
                      · simp [hb, idsV] at hh; exact hi hh
                      · omega
              refine ⟨g0, rfl, rfl, Nat.le_succ _, fun _ _ => rfl, key s rfl, fun s' he hn ha _ => ⟨hfoot s' he, (s'.setH (rmv s'.H id)).add (.arr es (rows.take len ++ new) leak), ?_, rfl, rfl, by simp [St.add, St.setH, hn], key s' hn⟩⟩
              simp only [evOp, he x (by simp [opsOf]), he y (by simp [opsOf]), appAV, hb, hsrc s' ha, hw s' ha, hid]
              rw [if_pos hc, if_neg hc2, if_pos hc3, hn]
            · cases h
        · cases h
      · cases h
    · cases h
  · cases h
/-- A store. -/
theorem loc_st {size : Nat} {p x : Opd} {H1 : Heap} (h : storeH size s.H (s.ev p) (s.ev x) = some H1) : ∃ g, Loc c cl (.st size p x) s .un (s.setH H1) ⟨[], [], idL (s.ev p) ++ idsV (s.ev x)⟩ g := by
  have hfoot : ∀ s' : St, (∀ z ∈ opsOf (.st size p x), s'.ev z = s.ev z) → foot c s' (.st size p x) = some ⟨[], [], idL (s.ev p) ++ idsV (s.ev x)⟩ := fun s' he => by
    simp only [foot, he x (by simp [opsOf]), he p (by simp [opsOf])]
  have key : ∀ s' : St, Agree ⟨[], [], idL (s.ev p) ++ idsV (s.ev x)⟩ s.H s'.H → ∃ H1', storeH size s'.H (s.ev p) (s.ev x) = some H1' ∧ Eff ⟨[], [], idL (s.ev p) ++ idsV (s.ev x)⟩ g0 s.nx s.nx H1 s'.H H1' := by
    intro s' ha
    unfold storeH at h ⊢
    split at h
    · rename_i id off hp
      have hid : lk s'.H id = lk s.H id := ha.w id (by simp [hp, idL])
      split at h
      · rename_i cells vs hc hvs
        split at h
        · rename_i hcd
          obtain ⟨H1', g1⟩ := upd_isSome (x := Ob.box (setAt cells off vs)) (l := s'.H) (t := id) (y := .box cells) (by rw [hid]; exact hc)
          refine ⟨H1', ?_, fun k => ?_⟩
          · simp only [hp, hid, hc, hvs]
            rw [if_pos hcd]
            exact g1
          · rw [lk_upd g1, lk_upd h]
            by_cases hk : k = id
            · simp [hk, hp, idL]
            · rw [if_neg hk, if_neg hk]
              split
              · rename_i hh
                rcases hh with hh | hh
                · exact ha.w k hh
                · omega
              · exact (leak_id _).symm
        · cases h
      · cases h
    · rename_i id i f hp
      have hid : lk s'.H id = lk s.H id := ha.w id (by simp [hp, idL])
      obtain ⟨g, hg1, hg2⟩ := leakV_ids (s.ev x)
      have hfr : frz s'.H (s.ev x) = frz s.H (s.ev x) := frz_ids _ fun j hj => by unfold rowsAt; rw [ha.w j (by simp [hj])]
      split at h
      · rename_i vs es rows leak hvs hc
        split at h
        · rename_i row hrow
          split at h
          · rename_i hcd
            have hc' : lk (leakV s'.H (s.ev x)) id = some (.arr es rows leak) := by
              rw [hg2, hid, ← hg2]
              exact hc
            obtain ⟨H1', g1⟩ := upd_isSome (x := Ob.arr es (rows.set i (setAt row f vs)) leak) (l := leakV s'.H (s.ev x)) (t := id) (y := .arr es rows leak) hc'
            refine ⟨H1', ?_, fun k => ?_⟩
            · simp only [hp, hfr, hvs, hc', hrow]
              rw [if_pos hcd]
              exact g1
            · rw [lk_upd g1, lk_upd h, hg2, hg2]
              by_cases hk : k = id
              · simp [hk, hp, idL]
              · rw [if_neg hk, if_neg hk]
                split
                · rename_i hh
                  rcases hh with hh | hh
                  · rw [ha.w k hh]
                  · omega
                · rename_i hh
                  rw [hg1 k (fun hm => hh (.inl (by simp [hm])))]
                  rfl
          · cases h
        · cases h
      · rename_i vs es rows hvs hc
        have hc' : lk (leakV s'.H (s.ev x)) id = some (.arx es rows) := by
          rw [hg2, hid, ← hg2]
          exact hc
        have hcs := lk_leakX hc
        unfold storeX at h
        split at h
        · rename_i vs2 row hv2 hrow
          split at h
          · rename_i hcd
            obtain ⟨H1', g1⟩ := upd_isSome (x := Ob.arx es (rows.set i (setAt row f vs2))) (l := s'.H) (t := id) (y := .arx es rows) (by rw [hid]; exact hcs)
            refine ⟨H1', ?_, fun k => ?_⟩
            · simp only [hp, hfr, hvs, hc', storeX, hv2, hrow]
              rw [if_pos hcd]
              exact g1
            · rw [lk_upd g1, lk_upd h]
              by_cases hk : k = id
              · simp [hk, hp, idL]
              · rw [if_neg hk, if_neg hk]
                split
                · rename_i hh
                  rcases hh with hh | hh
                  · exact ha.w k hh
                  · omega
                · exact (leak_id _).symm
          · cases h
        · cases h
      · cases h
    · cases h
  have k0 : Agree ⟨[], [], idL (s.ev p) ++ idsV (s.ev x)⟩ s.H s.H := ⟨fun _ _ => rfl, fun _ _ => LEq.refl _, fun _ _ => LEq.refl _⟩
  obtain ⟨H1', e1, e2⟩ := key s k0
  rw [h] at e1
  obtain rfl := Option.some.inj e1
  refine ⟨g0, rfl, rfl, Nat.le_refl _, fun _ _ => rfl, e2, fun s' he hn ha _ => ⟨hfoot s' he, ?_⟩⟩
  obtain ⟨H1', e1, e2⟩ := key s' ha
  refine ⟨s'.setH H1', ?_, rfl, rfl, hn, e2⟩
  simp only [evOp, he x (by simp [opsOf]), he p (by simp [opsOf]), e1]
/-- A copy of elements. -/
theorem loc_cpy {es : Nat} {x y : Opd} (h : cpyAV es s (s.ev x) (s.ev y) = some (v, s1)) : ∃ g, Loc c cl (.cpy es x y) s v s1 ⟨idsV (s.ev y), [], idsV (s.ev x)⟩ g := by
  have hfoot : ∀ s' : St, (∀ z ∈ opsOf (.cpy es x y), s'.ev z = s.ev z) → foot c s' (.cpy es x y) = some ⟨idsV (s.ev y), [], idsV (s.ev x)⟩ := fun s' he => by
    simp only [foot, he x (by simp [opsOf]), he y (by simp [opsOf])]
  unfold cpyAV at h
  split at h
  · rename_i src es' id off len ex hsrc hb
    have hs : ∀ s' : St, Agree ⟨idsV (s.ev y), [], idsV (s.ev x)⟩ s.H s'.H → srcRows es s'.H (s.ev y) = some src := fun s' ha => by rw [srcRows_ids _ ha.rr, hsrc]
    have hw : ∀ s' : St, Agree ⟨idsV (s.ev y), [], idsV (s.ev x)⟩ s.H s'.H → lk s'.H id = lk s.H id := fun s' ha => ha.w id (by simp [hb, idsV])
    split at h
    · rename_i hc
      split at h
      · rename_i es2 rows leak hid
        split at h
        · rename_i hc2
          split at h
          · rename_i H1 hu
            simp only [Option.some.injEq, Prod.mk.injEq] at h
            obtain ⟨rfl, rfl⟩ := h
            have key : ∀ s' : St, Agree ⟨idsV (s.ev y), [], idsV (s.ev x)⟩ s.H s'.H → ∃ H1', upd s'.H id (.arr es2 (copyRows rows off (src.take len)) leak) = some H1' ∧ Eff ⟨idsV (s.ev y), [], idsV (s.ev x)⟩ g0 s.nx s.nx H1 s'.H H1' := by
              intro s' ha
              obtain ⟨H1', g1⟩ := upd_isSome (x := Ob.arr es2 (copyRows rows off (src.take len)) leak) (l := s'.H) (t := id) (y := .arr es2 rows leak) (by rw [hw s' ha]; exact hid)
              refine ⟨H1', g1, fun k => ?_⟩
              rw [lk_upd g1, lk_upd hu]
              by_cases hk : k = id
              · subst hk; simp [hb, idsV]
              · rw [if_neg hk, if_neg hk, if_neg]
                · exact (leak_id _).symm
                · rintro (hh | hh)
                  · simp [hb, idsV] at hh; exact hk hh
                  · omega
            have k0 : Agree ⟨idsV (s.ev y), [], idsV (s.ev x)⟩ s.H s.H := ⟨fun _ _ => rfl, fun _ _ => LEq.refl _, fun _ _ => LEq.refl _⟩
            obtain ⟨H2, e1, e2⟩ := key s k0
            rw [hu] at e1
            obtain rfl := Option.some.inj e1
            refine ⟨g0, rfl, rfl, Nat.le_refl _, fun _ _ => rfl, e2, fun s' he hn ha _ => ⟨hfoot s' he, ?_⟩⟩
            obtain ⟨H1', e1, e2⟩ := key s' ha
            refine ⟨s'.setH H1', ?_, rfl, rfl, hn, e2⟩
            simp only [evOp, he x (by simp [opsOf]), he y (by simp [opsOf]), cpyAV, hb, hs s' ha, hw s' ha, hid]
            rw [if_pos hc, if_pos hc2, e1]
          · cases h
        · cases h
      · cases h
    · cases h
  · rename_i src hsrc hb
    simp only [Option.some.injEq, Prod.mk.injEq] at h
    obtain ⟨rfl, rfl⟩ := h
    have h0 : idsV (s.ev x) = [] := by rw [hb]; rfl
    rw [h0] at hfoot ⊢
    refine ⟨g0, loc_keep (hfoot s fun _ _ => rfl) ?_ fun s' he ha => ⟨hfoot s' he, ?_⟩⟩
    · simp only [evOp, cpyAV, hb, hsrc]
    · simp only [evOp, he x (by simp [opsOf]), he y (by simp [opsOf]), cpyAV, hb]
      rw [srcRows_ids _ ha.rr, hsrc]
  · cases h
/-- Zeros. -/
theorem loc_clr {es : Nat} {z : List AV} {x : Opd} (h : clrAV es z s (s.ev x) = some (v, s1)) : ∃ g, Loc c cl (.clr es z x) s v s1 ⟨[], [], idsV (s.ev x)⟩ g := by
  have hfoot : ∀ s' : St, (∀ q ∈ opsOf (.clr es z x), s'.ev q = s.ev q) → foot c s' (.clr es z x) = some ⟨[], [], idsV (s.ev x)⟩ := fun s' he => by
    simp only [foot, he x (by simp [opsOf])]
  have main : ∀ {id : Nat} {ob ob1 : Ob} {H1 : Heap}, idsV (s.ev x) = [id] → lk s.H id = some ob → upd s.H id ob1 = some H1 → v = .tup [] → s1 = s.setH H1 →
      (∀ s' : St, s'.ev x = s.ev x → lk s'.H id = some ob → ∀ H1', upd s'.H id ob1 = some H1' → clrAV es z s' (s'.ev x) = some (.tup [], s'.setH H1')) → ∃ g, Loc c cl (.clr es z x) s v s1 ⟨[], [], idsV (s.ev x)⟩ g := by
    intro id ob ob1 H1 hids hid hu hv hs1 hev
    subst hv; subst hs1
    have hw : ∀ s' : St, Agree ⟨[], [], idsV (s.ev x)⟩ s.H s'.H → lk s'.H id = lk s.H id := fun s' ha => ha.w id (by simp [hids])
    have key : ∀ s' : St, Agree ⟨[], [], idsV (s.ev x)⟩ s.H s'.H → ∃ H1', upd s'.H id ob1 = some H1' ∧ Eff ⟨[], [], idsV (s.ev x)⟩ g0 s.nx s.nx H1 s'.H H1' := by
      intro s' ha
      obtain ⟨H1', g1⟩ := upd_isSome (x := ob1) (l := s'.H) (t := id) (y := ob) (by rw [hw s' ha]; exact hid)
      refine ⟨H1', g1, fun k => ?_⟩
      rw [lk_upd g1, lk_upd hu]
      by_cases hk : k = id
      · subst hk; simp [hids]
      · rw [if_neg hk, if_neg hk, if_neg]
        · exact (leak_id _).symm
        · rintro (hh | hh)
          · simp [hids] at hh; exact hk hh
          · omega
    have k0 : Agree ⟨[], [], idsV (s.ev x)⟩ s.H s.H := ⟨fun _ _ => rfl, fun _ _ => LEq.refl _, fun _ _ => LEq.refl _⟩
    obtain ⟨H2, e1, e2⟩ := key s k0
    rw [hu] at e1
    obtain rfl := Option.some.inj e1
    refine ⟨g0, rfl, rfl, Nat.le_refl _, fun _ _ => rfl, e2, fun s' he hn ha _ => ⟨hfoot s' he, ?_⟩⟩
    obtain ⟨H1', e1, e2⟩ := key s' ha
    refine ⟨s'.setH H1', ?_, rfl, rfl, hn, e2⟩
    simp only [evOp]
    exact hev s' (he x (by simp [opsOf])) (by rw [hw s' ha]; exact hid) H1' e1
  unfold clrAV at h
  split at h
  · rename_i es' id off len ex hb
    split at h
    · rename_i hc
      split at h
      · rename_i es2 rows leak hid
        split at h
        · rename_i hc2
          split at h
          · rename_i H1 hu
            simp only [Option.some.injEq, Prod.mk.injEq] at h
            obtain ⟨rfl, rfl⟩ := h
            refine main (by rw [hb]; rfl) hid hu rfl rfl fun s' he hl H1' e1 => ?_
            simp only [he, clrAV, hb, hl]
            rw [if_pos hc, if_pos hc2, e1]
          · cases h
        · cases h
      · rename_i es2 rows hid
        split at h
        · rename_i hc2
          split at h
          · rename_i H1 hu
            simp only [Option.some.injEq, Prod.mk.injEq] at h
            obtain ⟨rfl, rfl⟩ := h
            refine main (by rw [hb]; rfl) hid hu rfl rfl fun s' he hl H1' e1 => ?_
            simp only [he, clrAV, hb, hl]
            rw [if_pos hc, if_pos hc2, e1]
          · cases h
        · cases h
      · cases h
    · cases h
  · rename_i hb
    simp only [Option.some.injEq, Prod.mk.injEq] at h
    obtain ⟨rfl, rfl⟩ := h
    have h0 : idsV (s.ev x) = [] := by rw [hb]; rfl
    rw [h0] at hfoot ⊢
    refine ⟨g0, loc_keep (hfoot s fun _ _ => rfl) ?_ fun s' he ha => ⟨hfoot s' he, ?_⟩⟩
    · simp only [evOp, clrAV, hb]
    · simp only [evOp, he x (by simp [opsOf]), clrAV, hb]
  · cases h
/-- Calls. -/
theorem loc_call {fn : Nat} {L : List AV} (hf : footC c s fn L = some f) (h : callAV c cl s fn L = some (v, s1)) (hfr : Fresh s.nx s1.nx s.H) : ∃ g, s1.env = s.env ∧ s1.loc = s.loc ∧ s.nx ≤ s1.nx ∧ (∀ k, k ∉ f.l → g k = 0) ∧ Eff f g s.nx s1.nx s1.H s.H s1.H ∧
    ∀ s', s'.nx = s.nx → Agree f s.H s'.H → Fresh s.nx s1.nx s'.H → footC c s' fn L = some f ∧ ∃ s1', callAV c cl s' fn L = some (v, s1') ∧ s1'.env = s'.env ∧ s1'.loc = s'.loc ∧ s1'.nx = s1.nx ∧ Eff f g s.nx s1.nx s1.H s'.H s1'.H := by
  unfold footC at hf
  by_cases hz : c.fz fn = true
  · rw [if_pos hz] at hf
    simp only [Option.some.injEq] at hf
    subst hf
    have hfoot : ∀ s' : St, footC c s' fn L = some ⟨[], idsVs L, []⟩ := fun s' => by unfold footC; rw [if_pos hz]
    simp only [callAV, hz, if_true] at h
    split at h
    · rename_i r H1 n1 hcl
      have key : ∀ s' : St, Agree ⟨[], idsVs L, []⟩ s.H s'.H → callAV c cl s' fn L = fzRet s' L (frz H1 r) := by
        intro s' ha
        have h2 : frzs s'.H L = frzs s.H L := frzs_ids _ ha.rl
        simp only [callAV, hz, if_true, h2, hcl]
      unfold fzRet at h
      split at h
      · rename_i hp
        simp only [Option.some.injEq, Prod.mk.injEq] at h
        obtain ⟨rfl, rfl⟩ := h
        refine ⟨g0, rfl, rfl, Nat.le_refl _, fun _ _ => rfl, Eff.same (by simp), fun s' hn ha _ => ⟨hfoot s', s', ?_, rfl, rfl, hn, by rw [← hn]; exact Eff.same (by simp)⟩⟩
        rw [key s' ha]
        simp only [fzRet, hp, if_true]
      · rename_i hp
        split at h
        · rename_i hi
          simp only [Option.some.injEq, Prod.mk.injEq] at h
          obtain ⟨rfl, rfl⟩ := h
          obtain ⟨g, hg1, hg2⟩ := leakVs_ids L
          have he : ∀ s' : St, Eff ⟨[], idsVs L, []⟩ g s.nx s.nx (leakVs s.H L) s'.H (leakVs s'.H L) := fun s' k => by
            rw [if_neg (by rintro (hh | hh); (simp at hh); omega)]
            exact hg2 s'.H k
          refine ⟨g, rfl, rfl, Nat.le_refl _, hg1, he s, fun s' hn ha _ => ⟨hfoot s', s'.setH (leakVs s'.H L), ?_, rfl, rfl, hn, he s'⟩⟩
          rw [key s' ha]
          simp only [fzRet, hp, hi, if_true, if_false]
          rfl
        · cases h
    · cases h
  · rw [if_neg hz] at hf
    split at hf
    · rename_i l hl
      simp only [Option.some.injEq] at hf
      subst hf
      have hreach := reachM_eq hl
      obtain ⟨q1, _, q3⟩ := reach_spec s.H fuelR L [] List.nodup_nil
      rw [hreach] at q1 q3
      have hfoot : ∀ s' : St, Agree ⟨[], [], l⟩ s.H s'.H → footC c s' fn L = some ⟨[], [], l⟩ := fun s' ha => by
        unfold footC
        rw [if_neg hz, reachM_same hl ha.w]
      have hcall : ∀ s' : St, Agree ⟨[], [], l⟩ s.H s'.H → reach s'.H fuelR L [] = l := fun s' ha => reachM_eq (reachM_same hl ha.w)
      simp only [callAV, hz, hreach] at h
      rw [if_neg (by simp)] at h
      split at h
      · rename_i r H1 n1 hcl
        simp only [Option.some.injEq, Prod.mk.injEq] at h
        obtain ⟨rfl, rfl⟩ := h
        have he : ∀ s' : St, Agree ⟨[], [], l⟩ s.H s'.H → Fresh s.nx (s.nx + (n1 - l.length)) s'.H → Eff ⟨[], [], l⟩ g0 s.nx (s.nx + (n1 - l.length)) (renH (backId l l.length n1 s.nx) H1 ++ dropAll s.H l) s'.H (renH (backId l l.length n1 s.nx) H1 ++ dropAll s'.H l) := by
          intro s' ha hfr' k
          rw [lk_app_eq, lk_app_eq, lk_dropAll_eq, lk_dropAll_eq]
          have hno : k ∉ l → ¬ (s.nx ≤ k ∧ k < s.nx + (n1 - l.length)) → lk (renH (backId l l.length n1 s.nx) H1) k = none := by
            intro hk hr
            refine renH_no H1 fun j hj => ?_
            by_cases hlt : j < l.length
            · rw [backId_old hlt] at hj
              exact hk (List.mem_of_getElem? hj)
            · obtain ⟨b1, b2⟩ := backId_new hlt hj
              omega
          by_cases hk : k ∈ l
          · have hc : k ∈ (Foot.mk [] [] l).w ∨ s.nx ≤ k ∧ k < s.nx + (n1 - l.length) := Or.inl hk
            rw [if_pos hc]
            simp only [hk, if_true]
          · by_cases hr : s.nx ≤ k ∧ k < s.nx + (n1 - l.length)
            · have hc : k ∈ (Foot.mk [] [] l).w ∨ s.nx ≤ k ∧ k < s.nx + (n1 - l.length) := Or.inr hr
              rw [if_pos hc]
              simp only [hk, if_false, hfr' k hr.1 hr.2, hfr k hr.1 hr.2]
            · have hc : ¬ (k ∈ (Foot.mk [] [] l).w ∨ s.nx ≤ k ∧ k < s.nx + (n1 - l.length)) := fun hh => hh.elim hk hr
              rw [if_neg hc, hno hk hr]
              simp only [hk, if_false]
              exact (leak_id _).symm
        have k0 : Agree ⟨[], [], l⟩ s.H s.H := ⟨fun _ _ => rfl, fun _ _ => LEq.refl _, fun _ _ => LEq.refl _⟩
        refine ⟨g0, rfl, rfl, Nat.le_add_right _ _, fun _ _ => rfl, he s k0 hfr, fun s' hn ha hfr' => ⟨hfoot s' ha, ⟨s'.env, s'.loc, renH (backId l l.length n1 s.nx) H1 ++ dropAll s'.H l, s.nx + (n1 - l.length)⟩, ?_, rfl, rfl, rfl, he s' ha hfr'⟩⟩
        simp only [callAV, hz, hcall s' ha, lent_same q1 ha.w, hcl]
        rw [if_neg (by simp), hn]
      · cases h
    · cases hf
theorem loc_op {ip : IP} (hf : foot c s ip = some f) (h : evOp c cl s ip = some (v, s1)) (hfr : Fresh s.nx s1.nx s.H) : ∃ g, Loc c cl ip s v s1 f g := by
  by_cases hv : valB ip = true
  · obtain ⟨rfl, _⟩ := p_cong (s' := s) hv h (fun _ _ => rfl)
    rw [foot_val hv] at hf
    obtain rfl := Option.some.inj hf
    exact ⟨_, loc_keep (foot_val hv) h fun s' he _ => ⟨foot_val hv, (p_cong hv h he).2⟩⟩
  · cases ip
    case ld a size p =>
      simp only [foot, Option.some.injEq] at hf
      subst hf
      obtain ⟨hg, rfl⟩ := keep_inv h
      refine ⟨_, loc_keep rfl h fun s' he ha => ?_⟩
      have h1 := he p (by simp [opsOf])
      refine ⟨by simp only [foot, h1], ?_⟩
      simp only [evOp, h1]
      rw [load_ids ha.r, hg]
      rfl
    case b2s x =>
      simp only [foot, Option.some.injEq] at hf
      subst hf
      obtain ⟨hg, rfl⟩ := keep_inv h
      refine ⟨_, loc_keep rfl h fun s' he ha => ?_⟩
      have h1 := he x (by simp [opsOf])
      refine ⟨by simp only [foot, h1], ?_⟩
      have h2 : b2sAV s'.H (s1.ev x) = b2sAV s1.H (s1.ev x) := by
        unfold b2sAV
        rw [rowsOf_ids _ ha.rr]
      simp only [evOp, h1, h2, hg]
      rfl
    case st size p x =>
      simp only [foot, Option.some.injEq] at hf
      subst hf
      simp only [evOp] at h
      split at h
      · rename_i H1 hH1
        simp only [Option.some.injEq, Prod.mk.injEq] at h
        obtain ⟨rfl, rfl⟩ := h
        exact loc_st hH1
      · cases h
    case alloc z =>
      simp only [foot, Option.some.injEq] at hf
      subst hf
      simp only [evOp, Option.some.injEq, Prod.mk.injEq] at h
      obtain ⟨rfl, rfl⟩ := h
      exact ⟨_, loc_new rfl fun s' he hn ha => ⟨rfl, by simp only [evOp, hn]⟩⟩
    case box x =>
      simp only [foot, Option.some.injEq] at hf
      subst hf
      simp only [evOp] at h
      split at h
      · rename_i cs hcs
        split at h
        · rename_i hb
          simp only [Option.some.injEq, Prod.mk.injEq] at h
          obtain ⟨rfl, rfl⟩ := h
          refine ⟨_, loc_new rfl fun s' he hn ha => ⟨rfl, ?_⟩⟩
          simp only [evOp, he x (by simp [opsOf]), hcs, hb, if_true, hn]
        · cases h
      · cases h
    case mks es z l m =>
      simp only [foot, Option.some.injEq] at hf
      subst hf
      simp only [evOp] at h
      unfold mksAV at h
      split at h
      · rename_i a b hl hm
        split at h
        · rename_i hb
          simp only [Option.some.injEq, Prod.mk.injEq] at h
          obtain ⟨rfl, rfl⟩ := h
          refine ⟨_, loc_new rfl fun s' he hn ha => ⟨rfl, ?_⟩⟩
          simp only [evOp, he l (by simp [opsOf]), he m (by simp [opsOf]), hl, hm, mksAV, hb, and_self, if_true, hn]
        · cases h
      · cases h
    case s2b x =>
      simp only [foot, Option.some.injEq] at hf
      subst hf
      simp only [evOp] at h
      unfold s2bAV at h
      split at h
      · rename_i str hx
        simp only [Option.some.injEq, Prod.mk.injEq] at h
        obtain ⟨rfl, rfl⟩ := h
        refine ⟨_, loc_new rfl fun s' he hn ha => ⟨rfl, ?_⟩⟩
        simp only [evOp, he x (by simp [opsOf]), hx, s2bAV, hn]
      · cases h
    case cln es x =>
      simp only [foot, Option.some.injEq] at hf
      subst hf
      simp only [evOp] at h
      obtain ⟨rows, ob, k1, k2, k3⟩ := clnX_inv h
      obtain ⟨rfl, rfl⟩ := k3
      refine ⟨_, loc_new rfl fun s' he hn ha => ?_⟩
      have h1 := he x (by simp [opsOf])
      refine ⟨by simp only [foot, h1], ?_⟩
      simp only [evOp, h1]
      rw [k2 s' (by rw [rowsOf_ids _ ha.rr]; exact k1), hn]
    case bsl es z len ps =>
      simp only [foot, Option.some.injEq] at hf
      subst hf
      simp only [evOp, bslAV] at h
      split at h
      · rename_i rows hrows
        simp only [Option.some.injEq, Prod.mk.injEq] at h
        obtain ⟨rfl, rfl⟩ := h
        obtain ⟨g, hg1, hg2⟩ := leakAll_ids (s.evp ps)
        have key : ∀ s' : St, s'.nx = s.nx → Eff ⟨[], idsVs (valsOf (s.evp ps)), []⟩ g s.nx (s.nx + 1) ((s.setH (leakAll s.H (s.evp ps))).add (.arr es rows 0)).H s'.H ((s'.setH (leakAll s'.H (s.evp ps))).add (.arr es rows 0)).H := by
          intro s' hn k
          simp only [St.add, St.setH, lk_cons, hn]
          by_cases hk : s.nx = k
          · subst hk; simp
          · rw [if_neg hk, if_neg hk, if_neg]
            · exact hg2 s'.H k
            · rintro (hh | hh)
              · simp at hh
              · omega
        refine ⟨g, rfl, rfl, Nat.le_succ _, hg1, key s rfl, fun s' he hn ha _ => ?_⟩
        have h1 : s'.evp ps = s.evp ps := evp_congr (by simpa [opsOf] using he)
        refine ⟨by simp only [foot, h1], (s'.setH (leakAll s'.H (s.evp ps))).add (.arr es rows 0), ?_, rfl, rfl, by simp [St.add, St.setH, hn], key s' hn⟩
        have h2 : fillRows es s'.H (List.replicate len z) (s.evp ps) = some rows := by rw [fillRows_ids ha.rl, hrows]
        simp only [evOp, bslAV, h1, h2, hn]
      · cases h
    case app es x y =>
      simp only [foot, Option.some.injEq] at hf
      subst hf
      simp only [evOp] at h
      exact loc_app h
    case cpy es x y =>
      simp only [foot, Option.some.injEq] at hf
      subst hf
      simp only [evOp] at h
      exact loc_cpy h
    case no =>
      simp only [evOp] at h
      cases h
    case clr es z x =>
      simp only [foot, Option.some.injEq] at hf
      subst hf
      simp only [evOp] at h
      exact loc_clr h
    case call fn args =>
      simp only [foot] at hf
      simp only [evOp] at h
      obtain ⟨g, k1, k2, k3, k4, k5, k6⟩ := loc_call hf h hfr
      refine ⟨g, k1, k2, k3, k4, k5, fun s' he hn ha hfr' => ?_⟩
      have h1 : s'.evs args = s.evs args := evs_congr (by simpa [opsOf] using he)
      simp only [foot, evOp, h1]
      exact k6 s' hn ha hfr'
    case callv q args =>
      simp only [foot] at hf
      simp only [evOp] at h
      split at hf
      · rename_i fn pre post hq
        rw [hq] at h
        simp only [callvAV] at h
        obtain ⟨g, k1, k2, k3, k4, k5, k6⟩ := loc_call hf h hfr
        refine ⟨g, k1, k2, k3, k4, k5, fun s' he hn ha hfr' => ?_⟩
        have h1 : s'.evs args = s.evs args := evs_congr fun x hx => he x (by simp only [opsOf]; exact List.mem_cons_of_mem _ hx)
        have h2 : s'.ev q = s.ev q := he q (by simp [opsOf])
        simp only [foot, evOp, h1, h2, hq, callvAV]
        exact k6 s' hn ha hfr'
      · cases hf
    all_goals exact absurd rfl hv
end
end Go.Proofs.Ytefjblgmnoheiaa.R
