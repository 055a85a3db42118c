/- append, in all its cases. -/
import Derived.Test.YtefjblgmnoheiaaRArr
set_option linter.unusedVariables false
set_option linter.unusedSectionVars false
set_option linter.unusedSimpArgs false
noncomputable section
namespace Go.Proofs.Ytefjblgmnoheiaa.R
open Go
section
variable {P : Program} {w : World} {A : Nat → Nat → Prop} {U : Nat → Nat → Prop} {ρ : Rho}
theorem ARs_take {es k : Nat} {rows : List (List AV)} {C : List Value} (h : ARs w U es rows C) (hk : rows.length * es ≤ k) : ARs w U es rows (C.take k) := by
  refine ARs_mk fun i r hi => ?_
  obtain ⟨g1, g2, g3⟩ := ARs_get h hi
  have hlt : i < rows.length := by
    rcases Nat.lt_or_ge i rows.length with hl | hl
    · exact hl
    · rw [List.getElem?_eq_none hl] at hi; cases hi
  have h1 : (i + 1) * es ≤ rows.length * es := Nat.mul_le_mul_right _ hlt
  have : ((C.take k).drop (i * es)).take es = (C.drop (i * es)).take es := by
    rw [List.drop_take, List.take_take]
    congr 1
    rw [Nat.succ_mul] at h1
    omega
  rw [this]
  exact ⟨g1, by rw [List.length_take]; omega, g3⟩
/-- More is forgotten first. -/
theorem Post.sub {s s1 s' : St} {v : AV} {x : Value} {w' : World} (hnx : s1.nx = s.nx) (he : s1.env = s.env) (hl : s1.loc = s.loc) (h : ∀ b o, Wr ρ s1.H b o → Wr ρ s.H b o) (hp : Post A ρ s1 w v s' x w') : Post A ρ s w v s' x w' := by
  obtain ⟨h1, h2, ρ', h3, h4, h5, h6⟩ := hp
  exact ⟨h1.trans he, h2.trans hl, ρ', h3, h4, by rw [← hnx]; exact h5, (Fr_less h).trans h6⟩
/-- A place under another name. -/
theorem Rep_move {H1 H' : Heap} {nx id b es : Nat} {ob : Ob} (hr : Rep A ρ H1 nx w) (hid : lk H1 id = some ob) (hρ : ρ id = some (b, es)) (hH : ∀ k, lk H' k = if k = nx then some ob else if k = id then none else lk H1 k) (hnb : ∀ cells, ob ≠ .box cells) :
    Rep A (putRho ρ nx (b, es)) H' (nx + 1) w ∧ ∀ b' o, Wr (putRho ρ nx (b, es)) H' b' o → Wr ρ H1 b' o := by
  have hw : ∀ b' o, Wr (putRho ρ nx (b, es)) H' b' o → Wr ρ H1 b' o := by
    rintro b' o ⟨i, es', o', g1, g2, g3⟩
    rw [hH] at g1
    by_cases hi : i = nx
    · subst hi
      rw [if_pos rfl] at g1
      obtain rfl := Option.some.inj g1
      rw [putRho_new] at g2
      simp only [Option.some.injEq, Prod.mk.injEq] at g2
      obtain ⟨rfl, rfl⟩ := g2
      exact ⟨id, es, ob, hid, hρ, g3⟩
    · rw [if_neg hi] at g1
      rw [putRho_old hi] at g2
      split at g1
      · cases g1
      · exact ⟨i, es', o', g1, g2, g3⟩
  have old : ∀ k o x, lk H' k = some o → putRho ρ nx (b, es) k = some x → ∃ k', lk H1 k' = some o ∧ ρ k' = some x ∧ ((k = nx ∧ k' = id) ∨ (k ≠ nx ∧ k ≠ id ∧ k' = k)) := by
    intro k o x g1 g2
    rw [hH] at g1
    by_cases hi : k = nx
    · subst hi
      rw [if_pos rfl] at g1
      rw [putRho_new] at g2
      exact ⟨id, by rw [hid]; exact g1, by rw [hρ]; exact g2, .inl ⟨rfl, rfl⟩⟩
    · rw [if_neg hi] at g1
      rw [putRho_old hi] at g2
      split at g1
      · cases g1
      · rename_i hne
        exact ⟨k, g1, g2, .inr ⟨hi, hne, rfl⟩⟩
  refine ⟨?_, hw⟩
  exact
    { ob := fun i o b' es' g1 g2 => by
        obtain ⟨k', h1, h2, _⟩ := old i o _ g1 g2
        exact ObR_mono (Stay.less fun b o hu => hu.imp_right (hw b o)) (hr.ext _) rfl (hr.ob k' o b' es' h1 h2)
      inj := fun i j oi oj b' ei ej g1 g2 g3 g4 => by
        obtain ⟨i', h1, h2, h3⟩ := old i oi _ g1 g3
        obtain ⟨j', h4, h5, h6⟩ := old j oj _ g2 g4
        have := hr.inj i' j' oi oj b' ei ej h1 h4 h2 h5
        rcases h3 with ⟨rfl, rfl⟩ | ⟨a1, a2, rfl⟩ <;> rcases h6 with ⟨rfl, rfl⟩ | ⟨a3, a4, rfl⟩
        · rfl
        · exact absurd this.symm a4
        · exact absurd this a2
        · exact this
      ltH := fun i o g1 => by
        rw [hH] at g1
        by_cases hi : i = nx
        · omega
        · rw [if_neg hi] at g1
          split at g1
          · cases g1
          · have := hr.ltH i o g1; omega
      ltR := fun i x g1 => by
        by_cases hi : i = nx
        · omega
        · rw [putRho_old hi] at g1
          have := hr.ltR i x g1; omega
      ltA := hr.ltA
      apart := fun i o b' es' off g1 g2 => by
        obtain ⟨k', h1, h2, _⟩ := old i o _ g1 g2
        exact hr.apart k' o b' es' off h1 h2 }
/-- A new array, behind a draw. -/
theorem post_grow {s : St} (hr : Rep A ρ s.H s.nx w) {es : Nat} {rows new : List (List AV)} (hz : 0 < es) {olds news D : List Value} {e : TypeId} {cap : Nat} (h1 : ARs w (UU A ρ s.H) es rows olds) (h2 : ARs w (UU A ρ s.H) es new news)
    (hol : olds.length = rows.length * es) (hnl : news.length = new.length * es) (hcap : rows.length + new.length ≤ cap) (hD : D.length = (cap - (rows.length + new.length)) * es) (leak : Nat) :
    Post A ρ s w (.own es s.nx 0 (rows.length + new.length) false) (s.add (.arr es (rows ++ new) leak)) (.slice (some ⟨w.heap.size, 0, none⟩) (rows.length + new.length) cap) (pushW { w with drawn := w.drawn + 1 } (.cells (olds ++ news ++ D).toArray e)) := by
  have hs := SameMem.drawn w (w.drawn + 1)
  have hA : ARs { w with drawn := w.drawn + 1 } (UU A ρ s.H) es (rows ++ new) (olds ++ news ++ D).toArray.toList := by
    rw [List.toList_toArray]
    exact ARs_mono (hs.stay _) (ARs_app (ARs_append h1 hol h2))
  have := snd_newBlock (A := A) (fr := (0, 0)) (e := e) (hs.rep hr) hz hA (unfr_none _) (cap := cap) (ex := false) (by
    simp only [List.size_toArray, List.length_append, hol, hnl, hD, ← Nat.add_mul]
    apply Nat.mul_le_mul_right
    omega) (by simpa using hcap) (by simp) leak
  rw [List.length_append] at this
  exact Post.pre hs this
theorem src_own {es id off len : Nat} {ex : Bool} {H : Heap} {rows : List (List AV)} {leak es' : Nat} (hid : lk H id = some (.arr es' rows leak)) (hle : off + len ≤ rows.length) : srcRows es H (.own es id off len ex) = some ((rows.drop off).take len) := by
  simp [srcRows, rowsOf, hid, hle]
theorem app_empty {s s' : St} (hr : Rep A ρ s.H s.nx w) {t t2 ty : TypeId} {es : Nat} (hT : AppTy P t t2 es) {B : Option Addr} {x v : AV} {X : Value} {new : List (List AV)} (hx : VR w (UU A ρ s.H) ρ x X) (hn : srcRows es s.H x = some new) (h : newArr s es new = some (v, s')) :
    ∃ z w', (Builtin.append_ #[t, t2] ty #[.slice B 0 0, X]).run P w = .ok z w' ∧ Post A ρ s w v s' z w' := by
  obtain ⟨news, k1, k2, k3, k4⟩ := src_spec (P := P) hr hx hn
  unfold newArr at h
  split at h
  · rename_i hlim
    simp only [Option.some.injEq, Prod.mk.injEq] at h
    obtain ⟨rfl, rfl⟩ := h
    have hz : 0 < es := by obtain ⟨e, xe, x2, z, _, _, _, _, h5, _, _, _, rfl⟩ := hT.ex; exact h5
    have hfull : ∀ w', w'.heap = w.heap → (Builtin.firstCells es new.length X).run P w' = .ok news.toArray w' := by
      intro w' hw
      have := k4 w' hw new.length (Nat.le_refl _)
      rwa [List.take_of_length_le (by omega)] at this
    rcases Nat.eq_zero_or_pos new.length with h0 | h0
    · have hnil : new = [] := List.eq_nil_of_length_eq_zero h0
      subst hnil
      have hnews : news = [] := List.eq_nil_of_length_eq_zero (by simpa using k1)
      subst hnews
      refine ⟨_, _, run_app_room (B := B) (n := 0) (c := 0) (w' := w) hT k3 (hfull w rfl) (by simp) ?_, ?_⟩
      · cases B <;> rfl
      · exact snd_noBlock hr es B 0
    · have hempty : ∀ w', w'.heap = w.heap → (Builtin.firstCells es 0 (.slice B 0 0)).run P w' = .ok ([] : List Value).toArray w' := by
        intro w' _
        cases B with
        | none => simp [run_firstCells_none]
        | some a => simp [Builtin.firstCells, loadCells, loadCellsFrom]
      obtain ⟨cap, D, e, g1, g2, g3⟩ := run_app_grow (ty := ty) hT (B := B) (n := 0) (c := 0) k3 hempty hfull (by simp) k1 (by omega) (by omega)
      have := post_grow (D := D) (e := e) (cap := cap) hr (rows := []) (new := new) hz (olds := []) (by simp [ARs]) k2 (by simp) k1 (by simpa using g1) (by simpa using g2) 0
      simp only [List.length_nil, Nat.zero_add, List.nil_append] at this g3
      exact ⟨_, _, g3, this⟩
  · cases h
theorem app_full {s s' : St} (hr : Rep A ρ s.H s.nx w) {t t2 ty : TypeId} {es : Nat} (hT : AppTy P t t2 es) {B : Option Addr} {n c : Nat} {y x v : AV} {X : Value} {rows new : List (List AV)} (hy : VR w (UU A ρ s.H) ρ y (.slice B n c)) (hr1 : srcRows es s.H y = some rows)
    (hx : VR w (UU A ρ s.H) ρ x X) (hn : srcRows es s.H x = some new) (h0 : 0 < new.length) (hc : c = n) (h : newArr s es (rows ++ new) = some (v, s')) :
    ∃ z w', (Builtin.append_ #[t, t2] ty #[.slice B n c, X]).run P w = .ok z w' ∧ Post A ρ s w v s' z w' := by
  obtain ⟨olds, j1, j2, j3, j4⟩ := src_spec (P := P) hr hy hr1
  obtain ⟨news, k1, k2, k3, k4⟩ := src_spec (P := P) hr hx hn
  have hnl : n = rows.length := by
    have := j3 w
    simp only [Builtin.lenOf, Sem.run_pure, Result.ok.injEq, and_true] at this
    exact this
  subst hnl
  subst hc
  unfold newArr at h
  split at h
  · rename_i hlim
    simp only [Option.some.injEq, Prod.mk.injEq] at h
    obtain ⟨rfl, rfl⟩ := h
    rw [List.length_append] at hlim ⊢
    have hz : 0 < es := by obtain ⟨e, xe, x2, z, _, _, _, _, h5, _, _, _, rfl⟩ := hT.ex; exact h5
    have hfull : ∀ w', w'.heap = w.heap → (Builtin.firstCells es new.length X).run P w' = .ok news.toArray w' := by
      intro w' hw
      have := k4 w' hw new.length (Nat.le_refl _)
      rwa [List.take_of_length_le (by omega)] at this
    have hfull2 : ∀ w', w'.heap = w.heap → (Builtin.firstCells es rows.length (.slice B rows.length rows.length)).run P w' = .ok olds.toArray w' := by
      intro w' hw
      have := j4 w' hw rows.length (Nat.le_refl _)
      rwa [List.take_of_length_le (by omega)] at this
    obtain ⟨cap, D, e, g1, g2, g3⟩ := run_app_grow (ty := ty) hT (B := B) (n := rows.length) (c := rows.length) k3 hfull2 hfull j1 k1 (by omega) (by omega)
    exact ⟨_, _, g3, post_grow hr hz j2 k2 j1 k1 g1 g2 0⟩
  · cases h
theorem ARs_head {es : Nat} {rows : List (List AV)} {C : List Value} (h : ARs w U es rows C) (n : Nat) : ARs w U es (rows.take n) C :=
  ARs_mk fun i r hi => by
    rw [List.getElem?_take] at hi
    split at hi
    · exact ARs_get h hi
    · cases hi
theorem snd_app {s s' : St} (hr : Rep A ρ s.H s.nx w) {t t2 ty : TypeId} {es : Nat} (hT : AppTy P t t2 es) {y x v : AV} {Y X : Value} (hy : VR w (UU A ρ s.H) ρ y Y) (hx : VR w (UU A ρ s.H) ρ x X) (h : appAV es s y x = some (v, s')) :
    ∃ z w', (Builtin.append_ #[t, t2] ty #[Y, X]).run P w = .ok z w' ∧ Post A ρ s w v s' z w' := by
  unfold appAV at h
  split at h
  · rename_i new hn
    split at h
    · simp only [VR] at hy
      subst hy
      exact app_empty hr hT hx hn h
    · rename_i es' rows ex
      split at h
      · rename_i hc
        obtain ⟨hfit, rfl⟩ := hc
        have hy' := hy
        simp only [VR] at hy
        obtain ⟨B, c, rfl, g1, g2, g3⟩ := hy
        have hcn := g2 trivial
        subst hcn
        split at h
        · rename_i hz
          rw [hz]
          exact app_empty hr hT hx hn h
        · split at h
          · rename_i h0
            exact app_full hr hT hy' (by simp [srcRows, rowsOf, hfit]) hx hn h0 rfl h
          · cases h
      · cases h
    · rename_i es' id off len ex
      split at h
      · rename_i hes
        subst hes
        split at h
        · rename_i es2 rows leak hid
          have hy' := hy
          simp only [VR] at hy
          obtain ⟨B, c, rfl, g1, g2, g3⟩ := hy
          split at h
          · rename_i hex
            subst hex
            have hcn := g2 rfl
            subst hcn
            split at h
            · rename_i hz
              subst hz
              exact app_empty hr hT hx hn h
            · split at h
              · rename_i h0
                exact app_full hr hT hy' (src_own hid h0.2) hx hn h0.1 rfl h
              · cases h
          · split at h
            · rename_i hc
              obtain ⟨rfl, hle, hleak, hlim⟩ := hc
              simp only [Option.some.injEq, Prod.mk.injEq] at h
              obtain ⟨rfl, rfl⟩ := h
              obtain ⟨news, k1, k2, k3, k4⟩ := src_spec (P := P) hr hx hn
              have hz : 0 < es' := by obtain ⟨e, xe, x2, z, _, _, _, _, h5, _, _, _, rfl⟩ := hT.ex; exact h5
              have hfull : ∀ w', w'.heap = w.heap → (Builtin.firstCells es' new.length X).run P w' = .ok news.toArray w' := by
                intro w' hw
                have := k4 w' hw new.length (Nat.le_refl _)
                rwa [List.take_of_length_le (by omega)] at this
              have hsub : ∀ k o, lk (rmv s.H id) k = some o → lk s.H k = some o := by
                intro k o hk
                rw [lk_rmv] at hk
                split at hk
                · cases hk
                · exact hk
              have hr' : Rep A ρ (s.setH (rmv s.H id)).H (s.setH (rmv s.H id)).nx w := Rep_sub hr hsub
              have hwsub : ∀ b o, Wr ρ (s.setH (rmv s.H id)).H b o → Wr ρ s.H b o := fun b o => Wr_sub hsub
              have hU : Stay w (UU A ρ s.H) w (UU A ρ (s.setH (rmv s.H id)).H) := Stay.less fun b o hu => hu.imp_right (hwsub b o)
              obtain ⟨olds, j1, j2, j3, j4⟩ := src_spec (P := P) hr hy' (src_own hid (by omega))
              have hrows : (rows.drop 0).take len = rows.take len := by simp
              have hlen : (rows.take len).length = len := by rw [List.length_take]; omega
              rw [hrows] at j1 j2 j3 j4
              rw [hlen] at j1 j3 j4
              have hfull2 : ∀ w', w'.heap = w.heap → (Builtin.firstCells es' len (.slice B len c)).run P w' = .ok olds.toArray w' := by
                intro w' hw
                have := j4 w' hw len (Nat.le_refl _)
                rwa [List.take_of_length_le (by omega)] at this
              rcases Nat.lt_or_ge c (len + new.length) with hg | hg
              · obtain ⟨cap, D, e, q1, q2, q3⟩ := run_app_grow (ty := ty) hT (B := B) (n := len) (c := c) k3 hfull2 hfull j1 k1 hg hlim
                have hpg := post_grow hr' hz (ARs_mono hU j2) (ARs_mono hU k2) (by rw [hlen]; exact j1) k1 (by rw [hlen]; exact q1) (by rw [hlen]; exact q2) leak (e := e)
                rw [hlen] at hpg
                exact ⟨_, _, q3, Post.sub (s1 := s.setH (rmv s.H id)) rfl rfl rfl hwsub hpg⟩
              · rcases g3 with ⟨h0, rfl⟩ | ⟨b, C, e, fr, g4, rfl, g5, g6⟩
                · have hn0 : new = [] := List.eq_nil_of_length_eq_zero (by omega)
                  subst hn0
                  subst h0
                  have hnews : news = [] := List.eq_nil_of_length_eq_zero (by simpa using k1)
                  subst hnews
                  refine ⟨_, _, run_app_room (B := B) (n := 0) (c := 0) (w' := w) hT k3 (hfull w rfl) (by simp) ?_, ?_⟩
                  · cases B <;> rfl
                  · simp only [List.take_zero, List.append_nil, List.length_nil, Nat.add_zero]
                    exact Post.sub (s1 := s.setH (rmv s.H id)) rfl rfl rfl hwsub (snd_noBlock hr' es' B leak)
                · obtain ⟨q1, q2, C', e', fr', q3, q4, q5⟩ := hr.ob id _ b es' hid g4
                  rw [g5] at q3
                  simp only [Option.some.injEq, Obj.cells.injEq] at q3
                  obtain ⟨rfl, rfl, rfl⟩ := q3
                  simp only [Nat.zero_add, Nat.zero_mul] at g6 ⊢
                  have hfit : (len + new.length) * es' ≤ C.size := Nat.le_trans (Nat.mul_le_mul_right _ hg) g6
                  rw [Nat.add_mul] at hfit
                  have hone := ARs_one k2 k1
                  have hst := run_storeCells_cells (P := P) b (len * es') news 0 w (fun j hj => by
                      rw [cell_of_block g5]; simp; omega) (fun j hj => frozen_of_block g5 q4 (by omega)) (fun v hv => oneCell_of_oneB (hone v hv))
                  simp only [Nat.add_zero] at hst
                  refine ⟨_, _, run_app_room (B := some ⟨b, 0, none⟩) (n := len) (c := c) (w' := w.setCells b (len * es') news) hT k3 (hfull w rfl) hg (by simpa [add_off] using hst), rfl, rfl, ?_⟩
                  obtain ⟨u1, u2, u3, u4, u5, u6⟩ := setCells_heap b e fr news (len * es') w C g5
                  have hwrite : ∀ o, ¬ wrOb es' o (.arr es2 rows leak) → (putV C (len * es') news)[o]? = C[o]? := by
                    intro o ho
                    rw [putV_get, if_neg]
                    intro hh
                    apply ho
                    simp only [wrOb]
                    have : leak * es' ≤ len * es' := Nat.mul_le_mul_right _ hleak
                    omega
                  have hH1 : ∀ k, lk ((id, Ob.arr es' (rows.take len ++ new) leak) :: rmv s.H id) k = if k = id then some (.arr es' (rows.take len ++ new) leak) else lk s.H k := by
                    intro k
                    rw [lk_cons, lk_rmv]
                    by_cases hk : id = k
                    · subst hk; simp
                    · have : ¬ k = id := fun e => hk e.symm
                      simp [hk, this]
                  obtain ⟨hfr, hrep⟩ := blk_update (H' := (id, Ob.arr es' (rows.take len ++ new) leak) :: rmv s.H id) (ob' := .arr es' (rows.take len ++ new) leak) hr hid g4 g5 u1 u2 u3 u4 u5 u6 (putV_size _ _ _) hwrite hH1 (fun _ hh => hh)
                  have hlist : (putV C (len * es') news).toList = C.toList.take (len * es') ++ news ++ C.toList.drop (len * es' + news.length) := by
                    apply List.ext_getElem?
                    intro i
                    have hcl : C.toList.length = C.size := by simp
                    rw [Array.getElem?_toList, putV_get]
                    by_cases h1 : i < len * es'
                    · rw [if_neg (by omega), List.append_assoc, List.getElem?_append_left (by rw [List.length_take]; omega), List.getElem?_take, if_pos h1, Array.getElem?_toList]
                    · by_cases h2 : i < len * es' + news.length
                      · rw [if_pos (by omega), List.append_assoc, List.getElem?_append_right (by rw [List.length_take]; omega), List.getElem?_append_left (by rw [List.length_take]; omega), List.length_take, Nat.min_eq_left (by omega)]
                      · rw [if_neg (by omega), List.getElem?_append_right (by rw [List.length_append, List.length_take]; omega), List.getElem?_drop, List.length_append, List.length_take, Nat.min_eq_left (by omega), Array.getElem?_toList]
                        congr 1; omega
                  have hrep1 := hrep ⟨rfl, hz, _, e, fr, u1, by rw [putV_size]; exact q4, by
                    rw [hlist]
                    refine ARs_app (ARs_append (ARs_take (ARs_head (ARs_mono hfr.stay q5) len) (by rw [hlen]; exact Nat.le_refl _)) ?_ (ARs_mono hfr.stay k2))
                    rw [hlen]
                    rw [List.length_take]
                    have hcl : C.toList.length = C.size := by simp
                    omega⟩
                  obtain ⟨hrep2, hw2⟩ := Rep_move (ob := Ob.arr es' (rows.take len ++ new) leak) (H' := (s.nx, Ob.arr es' (rows.take len ++ new) leak) :: rmv s.H id) hrep1 (by simp) g4 (fun k => by
                    by_cases hk : k = s.nx
                    · simp [hk]
                    · have e1 : ¬ s.nx = k := fun e => hk e.symm
                      by_cases hk2 : k = id
                      · subst hk2; simp [lk_rmv, hk, e1]
                      · have e2 : ¬ id = k := fun e => hk2 e.symm
                        simp [lk_rmv, hk, e1, hk2, e2]) (by simp)
                  refine ⟨putRho ρ s.nx (b, es'), hrep2, ?_, hr.ext2 _, hfr.trans ?_⟩
                  · simp only [VR]
                    refine ⟨_, c, rfl, hg, by simp, .inr ⟨b, _, e, fr, putRho_new _ _ _, by simp, u1, by rw [putV_size]; simpa using g6⟩⟩
                  · exact
                      { size := Nat.le_refl _
                        os := rfl
                        tape := rfl
                        output := rfl
                        cells := fun b' C e fr hb => ⟨C, hb, rfl, fun _ _ => rfl⟩
                        other := fun b' o hb _ => hb
                        shrink := fun b' o _ hw => hw2 b' o hw }
            · cases h
        · cases h
      · cases h
    · cases h
  · cases h
end
end Go.Proofs.Ytefjblgmnoheiaa.R
