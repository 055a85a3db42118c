/- What is read of a value as it is now; what is written at a place. -/
import Derived.Test.YtefjblgmnoheiaaRMop
set_option linter.unusedVariables false
set_option linter.unusedSectionVars false
set_option linter.unusedSimpArgs false
noncomputable section
namespace Go.Proofs.Ytefjblgmnoheiaa.R
open Go
mutual
theorem leakV_leaked : ∀ (v : AV) (H : Heap), Leaked H (leakV H v)
  | .own es id off len ex, H => by simp only [leakV]; exact Leaked.at _ _ _
  | .agg cs, H => by simp only [leakV]; exact leakVs_leaked cs H
  | .tup cs, H => by simp only [leakV]; exact leakVs_leaked cs H
  | .bad, H => by simp only [leakV]; exact Leaked.refl _
  | .un, H => by simp only [leakV]; exact Leaked.refl _
  | .bool _, H => by simp only [leakV]; exact Leaked.refl _
  | .int _ _, H => by simp only [leakV]; exact Leaked.refl _
  | .str _, H => by simp only [leakV]; exact Leaked.refl _
  | .nil, H => by simp only [leakV]; exact Leaked.refl _
  | .oth _, H => by simp only [leakV]; exact Leaked.refl _
  | .imm _ _ _, H => by simp only [leakV]; exact Leaked.refl _
  | .ptr _ _, H => by simp only [leakV]; exact Leaked.refl _
  | .eptr _ _ _, H => by simp only [leakV]; exact Leaked.refl _
  | .iptr _ _, H => by simp only [leakV]; exact Leaked.refl _
  | .fn _ _ _, H => by simp only [leakV]; exact Leaked.refl _
theorem leakVs_leaked : ∀ (vs : List AV) (H : Heap), Leaked H (leakVs H vs)
  | [], H => by simp only [leakVs]; exact Leaked.refl _
  | v :: r, H => by simp only [leakVs]; exact (leakV_leaked v H).trans (leakVs_leaked r _)
end
/-- How much of an array is read elsewhere, at least. -/
def LeakGe (H : Heap) (id n : Nat) : Prop := ∀ es rows leak, lk H id = some (.arr es rows leak) → n ≤ leak
theorem LeakGe.leak {H H' : Heap} {id n : Nat} (h : LeakGe H id n) (hl : Leaked H H') : LeakGe H' id n := by
  intro es rows leak hk
  obtain ⟨o, m, h1, h2⟩ := hl.back _ _ hk
  cases o with
  | box c => simp [leakOb] at h2
  | arr es' rows' leak' =>
    simp only [leakOb, Ob.arr.injEq] at h2
    obtain ⟨rfl, rfl, rfl⟩ := h2
    exact Nat.le_trans (h _ _ _ h1) (Nat.le_max_left _ _)
  | arx es' rows' => simp [leakOb] at h2
theorem LeakGe.at (H : Heap) (id n : Nat) : LeakGe (leakAt H id n) id n := by
  intro es rows leak hk
  rw [lk_leakAt] at hk
  cases h : lk H id with
  | none => simp [h] at hk
  | some o =>
    simp only [h, Option.map_some, if_true, Option.some.injEq] at hk
    cases o with
    | box c => simp [leakOb] at hk
    | arr es' rows' leak' =>
      simp only [leakOb, Ob.arr.injEq] at hk
      obtain ⟨rfl, rfl, rfl⟩ := hk
      exact Nat.le_max_right _ _
    | arx es' rows' => simp [leakOb] at hk
section
variable {P : Program} {w : World} {A : Nat → Nat → Prop} {ρ : Rho} {H H' : Heap} {nx : Nat}
theorem Stay_leak (hl : Leaked H H') : Stay w (UU A ρ H) w (UU A ρ H') := Stay.less fun b o hu => hu.imp_right (Wr_leak hl)
/-- A slice of one's own, read as it is now. -/
theorem own_imm (hr : Rep A ρ H nx w) (hl : Leaked H H') {es id off len : Nat} {ex ex' : Bool} {rows : List (List AV)} {es' leak : Nat} (hid : lk H id = some (.arr es' rows leak)) (hle : off + len ≤ rows.length) (hge : LeakGe H' id (off + len)) (hex : ex' = true → ex = true)
    {U : Nat → Nat → Prop} {x : Value} (h : VR w U ρ (.own es id off len ex) x) : VR w (UU A ρ H') noRho (.imm es ((rows.drop off).take len) ex') x := by
  simp only [VR] at h ⊢
  obtain ⟨B, c, rfl, h2, h3, h4⟩ := h
  have hlen : ((rows.drop off).take len).length = len := by rw [List.length_take, List.length_drop]; omega
  refine ⟨B, c, by rw [hlen], by omega, fun he => by rw [hlen]; exact h3 (hex he), ?_⟩
  rcases h4 with ⟨rfl, rfl⟩ | ⟨b, C, e, fr, h5, rfl, h6, h7⟩
  · left; simp
  · right
    refine ⟨b, off * es, rfl, ?_⟩
    refine RWs_mk fun i r hi => ?_
    rw [List.getElem?_take] at hi
    split at hi
    · rename_i hilt
      rw [List.getElem?_drop] at hi
      obtain ⟨_, _, C0, e0, fr0, q1, q2, q3⟩ := hr.ob id _ b es hid h5
      obtain ⟨g1, q4, q5, q6⟩ := ARs_get q3 hi
      refine ⟨g1, CLs_mk fun j a hj => ?_⟩
      obtain ⟨v, g3', g4⟩ := VRs_get q5 hj
      have hone := q6 v (List.mem_of_getElem? g3')
      have hjlt : j < es := by
        rw [← g1]
        rcases Nat.lt_or_ge j r.length with hl | hl
        · exact hl
        · rw [List.getElem?_eq_none hl] at hj; cases hj
      have hadd : off * es + i * es + j = (off + i) * es + j := by rw [Nat.add_mul]
      have g3 : w.cell? ⟨b, (off + i) * es + j, none⟩ = some v := by
        rw [List.getElem?_take, if_pos hjlt, List.getElem?_drop, Array.getElem?_toList] at g3'
        rw [cell_of_block q1]; exact g3'
      refine ⟨v, by rw [hadd]; exact g3, ?_, hone, ?_⟩
      · rw [hadd]
        rintro (ha | ⟨id', es2, ob, k1, k2, k3⟩)
        · exact hr.apart id _ b es _ hid h5 ha
        · obtain ⟨o2, m, k4, rfl⟩ := hl.back _ _ k1
          have := hr.inj id' id o2 _ b es2 es k4 hid k2 h5
          subst this
          rw [hid] at k4
          obtain rfl := Option.some.inj k4
          rw [h5] at k2
          simp only [Option.some.injEq, Prod.mk.injEq] at k2
          obtain ⟨_, rfl⟩ := k2
          simp only [leakOb, wrOb] at k3
          have := hge _ _ _ k1
          have h8 : (off + len) * es ≤ max leak m * es := Nat.mul_le_mul_right _ this
          have h9 : (off + i + 1) * es ≤ (off + len) * es := Nat.mul_le_mul_right _ (by omega)
          rw [Nat.succ_mul] at h9
          omega
      · refine VR_mono (Stay.less fun b o hu => ?_) a v noRho noRho (Ext.refl _) g4
        exact hu.imp_right (Wr_leak hl)
    · cases hi
mutual
/-- Read as it is now, with what was read protected. -/
theorem VR_frz (hr : Rep A ρ H nx w) : ∀ (v : AV) (H1 : Heap), Leaked H H1 → ∀ (H' : Heap), Leaked (leakV H1 v) H' → ∀ x, VR w (UU A ρ H) ρ v x → VR w (UU A ρ H') noRho (frz H v) x
  | .own es id off len ex, H1, hl1, H', hl, x, h => by
    simp only [frz, leakV] at hl ⊢
    split
    · rename_i es' rows leak hid
      split
      · rename_i hle
        refine VR_canI (own_imm (ex' := false) hr ((hl1.trans (Leaked.at _ _ _)).trans hl) hid hle ?_ (by simp) h)
        exact (LeakGe.at _ _ _).leak hl
      · simp [VR]
    · simp [VR]
  | .agg cs, H1, hl1, H', hl, x, h => by
    simp only [frz, leakV, VR] at hl h ⊢
    obtain ⟨xs, h1, h2⟩ := h
    exact ⟨xs, h1, VRs_frz hr cs H1 hl1 H' hl _ h2⟩
  | .tup cs, H1, hl1, H', hl, x, h => by
    simp only [frz, leakV, VR] at hl h ⊢
    obtain ⟨xs, h1, h2⟩ := h
    exact ⟨xs, h1, VRs_frz hr cs H1 hl1 H' hl _ h2⟩
  | .imm es rows ex, H1, hl1, H', hl, x, h => by
    simp only [frz, leakV] at hl ⊢
    have := VR_mono (Stay_leak (hl1.trans hl)) (.imm es rows ex) x ρ ρ (Ext.refl _) h
    refine VR_canI (es := es) (ex := ex) ?_
    simpa [VR] using this
  | .iptr row f, H1, hl1, H', hl, x, h => by
    simp only [frz, leakV] at hl ⊢
    have := VR_mono (Stay_leak (hl1.trans hl)) (.iptr row f) x ρ ρ (Ext.refl _) h
    simpa [VR] using this
  | .ptr _ _, H1, hl1, H', hl, x, h => by simp [frz, VR]
  | .eptr _ _ _, H1, hl1, H', hl, x, h => by simp [frz, VR]
  | .fn _ _ _, H1, hl1, H', hl, x, h => by simp [frz, VR]
  | .bad, H1, hl1, H', hl, x, h => by simp [frz, VR]
  | .un, H1, hl1, H', hl, x, h => by simpa [frz, VR] using h
  | .bool _, H1, hl1, H', hl, x, h => by simpa [frz, VR] using h
  | .int _ _, H1, hl1, H', hl, x, h => by simpa [frz, VR] using h
  | .str _, H1, hl1, H', hl, x, h => by simpa [frz, VR] using h
  | .nil, H1, hl1, H', hl, x, h => by
    simp only [frz]
    exact VR_nilI (ρ := ρ) (by simpa [VR] using h)
  | .oth _, H1, hl1, H', hl, x, h => by simpa [frz, VR] using h
theorem VRs_frz (hr : Rep A ρ H nx w) : ∀ (vs : List AV) (H1 : Heap), Leaked H H1 → ∀ (H' : Heap), Leaked (leakVs H1 vs) H' → ∀ xs, VRs w (UU A ρ H) ρ vs xs → VRs w (UU A ρ H') noRho (frzs H vs) xs
  | [], H1, hl1, H', hl, xs, h => by simpa [frzs, VRs] using h
  | v :: r, H1, hl1, H', hl, xs, h => by
    simp only [frzs, leakVs, VRs] at hl h ⊢
    obtain ⟨x, q, h1, h2, h3⟩ := h
    exact ⟨x, q, h1, VR_frz hr v H1 hl1 H' ((leakVs_leaked r _).trans hl) x h2, VRs_frz hr r (leakV H1 v) (hl1.trans (leakV_leaked v H1)) H' hl q h3⟩
end

theorem VR_canX (hr : Rep A ρ H nx w) {es id off len : Nat} {ex : Bool} {rows : List (List AV)} {es' : Nat} (hid : lk H id = some (.arx es' rows)) (hle : off + len ≤ rows.length)
    {U : Nat → Nat → Prop} {x : Value} (h : VR w U ρ (.own es id off len ex) x) : VR w A noRho (.imm es (((rows.drop off).take len).map (frzs H)) false) x := by
  simp only [VR] at h ⊢
  obtain ⟨B, c, rfl, h2, h3, h4⟩ := h
  have hlen : (((rows.drop off).take len).map (frzs H)).length = len := by rw [List.length_map, List.length_take, List.length_drop]; omega
  refine ⟨B, c, by rw [hlen], by omega, by simp, ?_⟩
  rcases h4 with ⟨rfl, rfl⟩ | ⟨b, C, e, fr, h5, rfl, h6, h7⟩
  · left; simp
  · right
    refine ⟨b, off * es, rfl, ?_⟩
    refine RWs_mk fun i r hi0 => ?_
    rw [List.getElem?_map] at hi0
    obtain ⟨r0, hi, hi1⟩ := Option.map_eq_some_iff.1 hi0
    subst hi1
    rw [List.getElem?_take] at hi
    split at hi
    · rename_i hilt
      rw [List.getElem?_drop] at hi
      obtain ⟨_, _, C0, e0, fr0, q1, q2, q3⟩ := hr.ob id _ b es hid h5
      obtain ⟨g1, q4, q5, q6⟩ := AXs_get q3 hi
      have q7 := VRs_frz hr r0 H (Leaked.refl _) (leakVs H r0) (Leaked.refl _) _ q5
      have q8 := VRs_mono (Stay.less (U' := A) fun b o hu => .inl hu) _ _ _ _ (Ext.refl _) q7
      have q9 : (frzs H r0).length = es := by
        have := VRs_length q8; have h' := VRs_length q5; omega
      refine ⟨q9, CLs_mk fun j a hj => ?_⟩
      obtain ⟨v, g3', g4⟩ := VRs_get q8 hj
      have hone := q6 v (List.mem_of_getElem? g3')
      have hjlt : j < es := by
        rw [← q9]
        rcases Nat.lt_or_ge j (frzs H r0).length with hl | hl
        · exact hl
        · rw [List.getElem?_eq_none hl] at hj; cases hj
      have hadd : off * es + i * es + j = (off + i) * es + j := by rw [Nat.add_mul]
      have g3 : w.cell? ⟨b, (off + i) * es + j, none⟩ = some v := by
        rw [List.getElem?_take, if_pos hjlt, List.getElem?_drop, Array.getElem?_toList] at g3'
        rw [cell_of_block q1]; exact g3'
      exact ⟨v, by rw [hadd]; exact g3, hr.apart id _ b es _ hid h5, hone, g4⟩
    · cases hi
theorem VR_frzA (hr : Rep A ρ H nx w) {v : AV} {x : Value} (h : VR w (UU A ρ H) ρ v x) : VR w A noRho (frz H v) x :=
  VR_mono (Stay.less (U' := A) fun b o hu => .inl hu) _ _ _ _ (Ext.refl _) (VR_frz hr v H (Leaked.refl _) (leakV H v) (Leaked.refl _) x h)
mutual
/-- All that is one's own is given up. -/
theorem VR_frzX (hr : Rep A ρ H nx w) : ∀ (v : AV) (x : Value), VR w (UU A ρ H) ρ v x → VR w A noRho (frzX H v) x
  | .own es id off len ex, x, h => by
    simp only [frzX]
    split
    · rename_i rows hid
      split
      · rename_i hle
        exact VR_canI (VR_canX hr hid hle h)
      · simp [VR]
    · exact VR_frzA hr h
  | .agg cs, x, h => by
    simp only [frzX, VR] at h ⊢
    obtain ⟨xs, h1, h2⟩ := h
    exact ⟨xs, h1, VRs_frzX hr cs _ h2⟩
  | .tup cs, x, h => by
    simp only [frzX, VR] at h ⊢
    obtain ⟨xs, h1, h2⟩ := h
    exact ⟨xs, h1, VRs_frzX hr cs _ h2⟩
  | .imm _ _ _, x, h => VR_frzA hr h
  | .iptr _ _, x, h => VR_frzA hr h
  | .ptr _ _, x, h => VR_frzA hr h
  | .eptr _ _ _, x, h => VR_frzA hr h
  | .fn _ _ _, x, h => VR_frzA hr h
  | .bad, x, h => VR_frzA hr h
  | .un, x, h => VR_frzA hr h
  | .bool _, x, h => VR_frzA hr h
  | .int _ _, x, h => VR_frzA hr h
  | .str _, x, h => VR_frzA hr h
  | .nil, x, h => VR_frzA hr h
  | .oth _, x, h => VR_frzA hr h
theorem VRs_frzX (hr : Rep A ρ H nx w) : ∀ (vs : List AV) (xs : List Value), VRs w (UU A ρ H) ρ vs xs → VRs w A noRho (frzXs H vs) xs
  | [], xs, h => by simpa [frzXs, VRs] using h
  | v :: r, xs, h => by
    simp only [frzXs, VRs] at h ⊢
    obtain ⟨x, q, h1, h2, h3⟩ := h
    exact ⟨x, q, h1, VR_frzX hr v x h2, VRs_frzX hr r q h3⟩
end

/-! ### Writing -/
theorem run_storeVar {t : TypeId} {x : TI} (ht : tyOf P t = some x) {b o : Nat} {X : Value} (hs : X.cells.size = x.size) (h1 : ∀ y ∈ X.cells.toList, oneB y = true) {C : Array Value} {e : TypeId} {fr : Nat × Nat} (hb : w.heap[b]? = some (Obj.cells C e fr)) (hu : unfr fr C.size)
    (hle : o + x.size ≤ C.size) : (Instr.storeAt t (.pointer (some ⟨b, o, none⟩)) X).run P w = .ok () (w.setCells b o X.cells.toList) := by
  have hne : ¬ (X.cells.size ≠ x.size) := by simp [hs]
  have hst := run_storeCells_cells (P := P) b o X.cells.toList 0 w (fun j hj => by
      rw [cell_of_block hb]
      simp at hj ⊢; omega) (fun j hj => frozen_of_block hb hu (by simp at hj; omega)) (fun v hv => oneCell_of_oneB (h1 v hv))
  simp only [Nat.add_zero] at hst
  simp only [Instr.storeAt, Instr.sureAddr, Sem.run_bind, Sem.run_pure, Result.andThen_ok, storeVar, run_sizeOf' ht, Sem.run_ite, if_neg hne]
  exact hst
theorem snd_storeX {s : St} (hr : Rep A ρ s.H s.nx w) {t : TypeId} {ti : TI} (ht : tyOf P t = some ti) {id i f es' : Nat} {rows : List (List AV)} {v : AV} {p' X : Value} (hp : VR w (UU A ρ s.H) ρ (.eptr id i f) p') (hv : VR w (UU A ρ s.H) ρ v X) (hid : lk s.H id = some (.arx es' rows)) {H' : Heap} (h : storeX ti.size s.H id i f es' rows v = some H') :
    ∃ w', (Instr.storeAt t p' X).run P w = .ok () w' ∧ Post A ρ s w .un (s.setH H') undef w' := by
  unfold storeX at h
  split at h
  · rename_i vs row hvs hrow
    split at h
    · rename_i hc
      obtain ⟨c1, c2, c5⟩ := hc
      simp only [VR] at hp
      obtain ⟨b, es, hρ, rfl⟩ := hp
      obtain ⟨h0, hz, C, e, fr, hb, hu, hC⟩ := hr.ob id _ b es hid hρ
      have hX := VRs_cells hvs hv
      have hlx := VRs_length hX
      have hxs : X.cells.toList.length = X.cells.size := by simp
      have hcs : C.toList.length = C.size := by simp
      obtain ⟨g1, g2, g3, g4⟩ := AXs_get hC hrow
      have hle : i * es + f + ti.size ≤ C.size := by
        rw [Nat.succ_mul] at g2; omega
      have hrun := run_storeVar (P := P) (w := w) ht (o := i * es + f) (X := X) (by omega) (VRs_one c5 hX) hb hu hle
      refine ⟨_, hrun, rfl, rfl, ρ, ?_⟩
      obtain ⟨k1, k2, k3, k4, k5, k6⟩ := setCells_heap b e fr X.cells.toList (i * es + f) w C hb
      obtain ⟨hfr, hrep⟩ := blk_update (H' := H') (ob' := .arx es' (rows.set i (setAt row f vs))) hr hid hρ hb k1 k2 k3 k4 k5 k6 (putV_size _ _ _) (fun o ho => absurd trivial ho) (fun k => lk_upd h k) (fun _ _ => trivial)
      refine ⟨hrep ⟨h0, hz, _, e, fr, k1, by rw [putV_size]; exact hu, ?_⟩, by simp [VR], Ext2.refl _ _, hfr⟩
      refine AXs_mk fun j r hj => ?_
      have hclen : (putV C (i * es + f) X.cells.toList).toList.length = C.size := by simp [putV_size]
      by_cases hij : i = j
      · subst hij
        have hlt : i < rows.length := by
          rcases Nat.lt_or_ge i rows.length with hl | hl
          · exact hl
          · rw [List.getElem?_eq_none hl] at hrow; cases hrow
        rw [List.getElem?_set_self hlt] at hj
        obtain rfl := Option.some.inj hj
        refine ⟨by rw [setAt_length]; exact g1, by rw [hclen]; rw [hcs] at g2; exact g2, ?_, ?_⟩
        rotate_left
        · intro x hx
          obtain ⟨q, hq⟩ := List.mem_iff_getElem?.1 hx
          rw [List.getElem?_take] at hq
          split at hq
          · rename_i hqlt
            rw [List.getElem?_drop, Array.getElem?_toList, putV_get] at hq
            split at hq
            · exact VRs_one c5 hX x (List.mem_of_getElem? hq)
            · refine g4 x (List.mem_of_getElem? (i := q) ?_)
              rw [List.getElem?_take, if_pos hqlt, List.getElem?_drop, Array.getElem?_toList]
              exact hq
          · cases hq
        refine VRs_of_get ?_ fun q a hq => ?_
        · rw [setAt_length, List.length_take, List.length_drop, hclen]
          rw [Nat.succ_mul] at g2; omega
        · have hqlt : q < es := by
            have : q < (setAt row f vs).length := by
              rcases Nat.lt_or_ge q (setAt row f vs).length with hl | hl
              · exact hl
              · rw [List.getElem?_eq_none hl] at hq; cases hq
            rw [setAt_length] at this; omega
          rw [List.getElem?_take, if_pos hqlt, List.getElem?_drop, Array.getElem?_toList, putV_get]
          rw [setAt_get] at hq
          split at hq
          · rename_i hcond
            rw [if_pos (by rw [Nat.succ_mul] at g2; omega)]
            obtain ⟨x, q1, q2⟩ := VRs_get hX hq
            exact ⟨x, by rw [show i * es + q - (i * es + f) = q - f by omega]; exact q1, VR_mono hfr.stay _ _ _ _ (Ext.refl _) q2⟩
          · rename_i hcond
            rw [if_neg (by omega)]
            obtain ⟨x, q1, q2⟩ := VRs_get g3 hq
            rw [List.getElem?_take, if_pos hqlt, List.getElem?_drop, Array.getElem?_toList] at q1
            exact ⟨x, q1, VR_mono hfr.stay _ _ _ _ (Ext.refl _) q2⟩
      · rw [List.getElem?_set_ne hij] at hj
        obtain ⟨q1, q2, q3, q4⟩ := AXs_get hC hj
        refine ⟨q1, by rw [hclen]; rw [hcs] at q2; exact q2, ?_⟩
        have heq : ((putV C (i * es + f) X.cells.toList).toList.drop (j * es)).take es = (C.toList.drop (j * es)).take es := by
          apply List.ext_getElem?
          intro q
          rw [List.getElem?_take, List.getElem?_take]
          split
          · rename_i hqlt
            rw [List.getElem?_drop, List.getElem?_drop, Array.getElem?_toList, Array.getElem?_toList, putV_get, if_neg]
            intro hh
            rcases Nat.lt_or_gt_of_ne hij with hlt | hlt
            · have : (i + 1) * es ≤ j * es := Nat.mul_le_mul_right _ hlt
              rw [Nat.succ_mul] at this; omega
            · have : (j + 1) * es ≤ i * es := Nat.mul_le_mul_right _ hlt
              rw [Nat.succ_mul] at this; omega
          · rfl
        rw [heq]
        exact ⟨VRs_mono hfr.stay _ _ _ _ (Ext.refl _) q3, q4⟩
    · cases h
  · cases h
theorem lk_leakX {H : Heap} {v : AV} {id es : Nat} {rows : List (List AV)} (h : lk (leakV H v) id = some (.arx es rows)) : lk H id = some (.arx es rows) := by
  obtain ⟨o, n, h1, h2⟩ := (leakV_leaked v H).back _ _ h
  cases o with
  | box c => simp [leakOb] at h2
  | arr es' rows' leak' => simp [leakOb] at h2
  | arx es' rows' =>
    simp only [leakOb, Ob.arx.injEq] at h2
    obtain ⟨rfl, rfl⟩ := h2
    exact h1
theorem snd_store {s : St} (hr : Rep A ρ s.H s.nx w) {t : TypeId} {ti : TI} (ht : tyOf P t = some ti) {p v : AV} {p' X : Value} (hp : VR w (UU A ρ s.H) ρ p p') (hv : VR w (UU A ρ s.H) ρ v X) {H' : Heap} (h : storeH ti.size s.H p v = some H') :
    ∃ w', (Instr.storeAt t p' X).run P w = .ok () w' ∧ Post A ρ s w .un (s.setH H') undef w' := by
  unfold storeH at h
  split at h
  · rename_i id off
    split at h
    · rename_i cells vs hid hvs
      split at h
      · rename_i hc
        obtain ⟨c1, c2, c3⟩ := hc
        simp only [VR] at hp
        obtain ⟨b, es, hρ, rfl⟩ := hp
        obtain ⟨C, e, fr, hb, hu, hC⟩ := hr.ob id _ b es hid hρ
        have hX := VRs_cells hvs hv
        have hlx := VRs_length hX
        have hlc := VRs_length hC
        have hxs : X.cells.toList.length = X.cells.size := by simp
        have hcs : C.toList.length = C.size := by simp
        have hrun := run_storeVar (P := P) (w := w) ht (o := off) (X := X) (by omega) (VRs_one c3 hX) hb hu (by omega)
        refine ⟨_, hrun, rfl, rfl, ρ, ?_⟩
        obtain ⟨k1, k2, k3, k4, k5, k6⟩ := setCells_heap b e fr X.cells.toList off w C hb
        obtain ⟨hfr, hrep⟩ := blk_update (H' := H') (ob' := .box (setAt cells off vs)) hr hid hρ hb k1 k2 k3 k4 k5 k6 (putV_size _ _ _) (fun o ho => absurd trivial ho) (fun k => lk_upd h k) (fun _ _ => trivial)
        refine ⟨hrep ⟨_, e, fr, k1, by rw [putV_size]; exact hu, ?_⟩, by simp [VR], Ext2.refl _ _, hfr⟩
        exact VRs_putV (VRs_mono hfr.stay _ _ ρ ρ (Ext.refl _) hC) (VRs_mono hfr.stay _ _ ρ ρ (Ext.refl _) hX) c2
      · cases h
    · cases h
  · rename_i id i f
    split at h
    · rename_i vs es' rows leak hvs hid
      split at h
      · rename_i row hrow
        split at h
        · rename_i hc
          obtain ⟨c1, c2, c3, c4, c5⟩ := hc
          simp only [VR] at hp
          obtain ⟨b, es, hρ, rfl⟩ := hp
          have hl := leakV_leaked v s.H
          have hr1 := Rep_leak hr hl
          obtain ⟨h0, hz, C, e, fr, hb, hu, hC⟩ := hr1.ob id _ b es hid hρ
          have hV := VR_frz hr v s.H (Leaked.refl _) (leakV s.H v) (Leaked.refl _) X hv
          have hX := VRs_cells hvs hV
          have hlx := VRs_length hX
          have hxs : X.cells.toList.length = X.cells.size := by simp
          have hcs : C.toList.length = C.size := by simp
          obtain ⟨g1, g2, g3, g4⟩ := ARs_get hC hrow
          have hle : i * es + f + ti.size ≤ C.size := by
            rw [Nat.succ_mul] at g2; omega
          have hrun := run_storeVar (P := P) (w := w) ht (o := i * es + f) (X := X) (by omega) (VRs_one c5 hX) hb hu hle
          refine ⟨_, hrun, rfl, rfl, ρ, ?_⟩
          obtain ⟨k1, k2, k3, k4, k5, k6⟩ := setCells_heap b e fr X.cells.toList (i * es + f) w C hb
          have hwrite : ∀ o, ¬ wrOb es o (.arr es' rows leak) → (putV C (i * es + f) X.cells.toList)[o]? = C[o]? := by
            intro o ho
            rw [putV_get, if_neg]
            intro hh
            apply ho
            simp only [wrOb]
            have : leak * es ≤ i * es := Nat.mul_le_mul_right _ c3
            omega
          obtain ⟨hfr, hrep⟩ := blk_update (H' := H') (ob' := .arr es' (rows.set i (setAt row f vs)) leak) hr1 hid hρ hb k1 k2 k3 k4 k5 k6 (putV_size _ _ _) hwrite (fun k => lk_upd h k) (fun _ hh => hh)
          refine ⟨hrep ⟨h0, hz, _, e, fr, k1, by rw [putV_size]; exact hu, ?_⟩, by simp [VR], Ext2.refl _ _, (Fr_less fun b o => Wr_leak hl).trans hfr⟩
          refine ARs_mk fun j r hj => ?_
          have hclen : (putV C (i * es + f) X.cells.toList).toList.length = C.size := by simp [putV_size]
          by_cases hij : i = j
          · subst hij
            have hlt : i < rows.length := by
              rcases Nat.lt_or_ge i rows.length with hl | hl
              · exact hl
              · rw [List.getElem?_eq_none hl] at hrow; cases hrow
            rw [List.getElem?_set_self hlt] at hj
            obtain rfl := Option.some.inj hj
            refine ⟨by rw [setAt_length]; exact g1, by rw [hclen]; rw [hcs] at g2; exact g2, ?_, ?_⟩
            rotate_left
            · intro x hx
              obtain ⟨q, hq⟩ := List.mem_iff_getElem?.1 hx
              rw [List.getElem?_take] at hq
              split at hq
              · rename_i hqlt
                rw [List.getElem?_drop, Array.getElem?_toList, putV_get] at hq
                split at hq
                · exact VRs_one c5 hX x (List.mem_of_getElem? hq)
                · refine g4 x (List.mem_of_getElem? (i := q) ?_)
                  rw [List.getElem?_take, if_pos hqlt, List.getElem?_drop, Array.getElem?_toList]
                  exact hq
              · cases hq
            refine VRs_of_get ?_ fun q a hq => ?_
            · rw [setAt_length, List.length_take, List.length_drop, hclen]
              rw [Nat.succ_mul] at g2; omega
            · have hqlt : q < es := by
                have : q < (setAt row f vs).length := by
                  rcases Nat.lt_or_ge q (setAt row f vs).length with hl | hl
                  · exact hl
                  · rw [List.getElem?_eq_none hl] at hq; cases hq
                rw [setAt_length] at this; omega
              rw [List.getElem?_take, if_pos hqlt, List.getElem?_drop, Array.getElem?_toList, putV_get]
              rw [setAt_get] at hq
              split at hq
              · rename_i hcond
                rw [if_pos (by rw [Nat.succ_mul] at g2; omega)]
                obtain ⟨x, q1, q2⟩ := VRs_get hX hq
                exact ⟨x, by rw [show i * es + q - (i * es + f) = q - f by omega]; exact q1, VR_mono hfr.stay _ _ _ _ (Ext.refl _) q2⟩
              · rename_i hcond
                rw [if_neg (by omega)]
                obtain ⟨x, q1, q2⟩ := VRs_get g3 hq
                rw [List.getElem?_take, if_pos hqlt, List.getElem?_drop, Array.getElem?_toList] at q1
                exact ⟨x, q1, VR_mono hfr.stay _ _ _ _ (Ext.refl _) q2⟩
          · rw [List.getElem?_set_ne hij] at hj
            obtain ⟨q1, q2, q3, q4⟩ := ARs_get hC hj
            refine ⟨q1, by rw [hclen]; rw [hcs] at q2; exact q2, ?_⟩
            have heq : ((putV C (i * es + f) X.cells.toList).toList.drop (j * es)).take es = (C.toList.drop (j * es)).take es := by
              apply List.ext_getElem?
              intro q
              rw [List.getElem?_take, List.getElem?_take]
              split
              · rename_i hqlt
                rw [List.getElem?_drop, List.getElem?_drop, Array.getElem?_toList, Array.getElem?_toList, putV_get, if_neg]
                intro hh
                rcases Nat.lt_or_gt_of_ne hij with hlt | hlt
                · have : (i + 1) * es ≤ j * es := Nat.mul_le_mul_right _ hlt
                  rw [Nat.succ_mul] at this; omega
                · have : (j + 1) * es ≤ i * es := Nat.mul_le_mul_right _ hlt
                  rw [Nat.succ_mul] at this; omega
              · rfl
            rw [heq]
            exact ⟨VRs_mono hfr.stay _ _ _ _ (Ext.refl _) q3, q4⟩
        · cases h
      · cases h
    · rename_i vs es' rows hvs hid
      exact snd_storeX hr ht hp hv (lk_leakX hid) h
    · cases h
  · cases h
end
end Go.Proofs.Ytefjblgmnoheiaa.R
