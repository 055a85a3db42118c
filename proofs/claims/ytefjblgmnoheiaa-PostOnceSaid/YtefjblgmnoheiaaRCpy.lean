/- copy. -/
import Derived.Test.YtefjblgmnoheiaaRLit
import Derived.Test.YtefjblgmnoheiaaRMake
set_option linter.unusedVariables false
set_option linter.unusedSectionVars false
set_option linter.unusedSimpArgs false
noncomputable section
namespace Go.Proofs.Ytefjblgmnoheiaa.R
open Go
theorem copyRows_eq : ∀ (rows : List (List AV)) (k : Nat) (ns : List (List AV)), k + ns.length ≤ rows.length → copyRows rows k ns = rows.take k ++ ns ++ rows.drop (k + ns.length)
  | [], k, ns, h => by
    have h1 : k = 0 := by simp at h; omega
    have h2 : ns = [] := List.eq_nil_of_length_eq_zero (by rw [List.length_nil] at h; omega)
    subst h1; subst h2; simp [copyRows]
  | r :: rs, 0, n :: ns, h => by
    have := copyRows_eq rs 0 ns (by simpa using h)
    simp only [copyRows, this, List.take_zero, List.nil_append, Nat.zero_add, List.cons_append, List.length_cons, List.drop_succ_cons]
  | r :: rs, 0, [], h => by simp [copyRows]
  | r :: rs, k + 1, ns, h => by
    have := copyRows_eq rs k ns (by simp at h; omega)
    simp only [copyRows, this, List.take_succ_cons, List.cons_append, List.append_assoc]
    rw [show k + 1 + ns.length = (k + ns.length) + 1 by omega, List.drop_succ_cons]
section
variable {P : Program} {w : World} {A : Nat → Nat → Prop} {U : Nat → Nat → Prop} {ρ : Rho}
theorem ARs_rows {es : Nat} {rows : List (List AV)} {C : List Value} (h : ARs w U es rows C) (k : Nat) : ARs w U es (rows.take k) C := by
  refine ARs_mk fun i r hi => ?_
  rw [List.getElem?_take] at hi
  split at hi
  · exact ARs_get h hi
  · cases hi
theorem ARs_drop {es : Nat} {rows : List (List AV)} {C : List Value} (h : ARs w U es rows C) (k : Nat) : ARs w U es (rows.drop k) (C.drop (k * es)) := by
  refine ARs_mk fun i r hi => ?_
  rw [List.getElem?_drop] at hi
  obtain ⟨g1, g2, g3⟩ := ARs_get h hi
  have e : k * es + i * es = (k + i) * es := by rw [Nat.add_mul]
  rw [List.drop_drop, e]
  refine ⟨g1, ?_, g3⟩
  rw [List.length_drop]
  rw [Nat.succ_mul] at g2 ⊢
  omega
theorem putV_list (C : Array Value) (o : Nat) (news : List Value) (h : o + news.length ≤ C.size) : (putV C o news).toList = C.toList.take o ++ news ++ C.toList.drop (o + news.length) := by
  apply List.ext_getElem?
  intro i
  have hcl : C.toList.length = C.size := by simp
  rw [Array.getElem?_toList, putV_get]
  by_cases h1 : i < o
  · rw [if_neg (by omega), List.append_assoc, List.getElem?_append_left (by rw [List.length_take]; omega), List.getElem?_take, if_pos h1, Array.getElem?_toList]
  · by_cases h2 : i < o + news.length
    · rw [if_pos (by omega), List.append_assoc, List.getElem?_append_right (by rw [List.length_take]; omega), List.getElem?_append_left (by rw [List.length_take]; omega), List.length_take, Nat.min_eq_left (by omega)]
    · rw [if_neg (by omega), List.getElem?_append_right (by rw [List.length_append, List.length_take]; omega), List.getElem?_drop, List.length_append, List.length_take, Nat.min_eq_left (by omega), Array.getElem?_toList]
      congr 1; omega
theorem run_cpy {t ty e : TypeId} {ts : Array TypeId} {tr : List TypeId} (hts : ts.toList = t :: tr) {xe : TI} (h1 : P.underlying t = some (.slice e)) (h2 : tyOf P e = some xe) {B : Option Addr} {len c m : Nat} {X : Value} {cs : List Value} (hl : ∀ w', (Builtin.lenOf X).run P w' = .ok m w')
    (hf : (Builtin.firstCells xe.size (Nat.min m len) X).run P w = .ok cs.toArray w) {w' : World} (hst : (match B with | some a => storeCells a cs | none => pure () : Sem Unit).run P w = .ok () w') :
    (Builtin.copy_ ts ty #[.slice B len c, X]).run P w = .ok (goInt (Nat.min m len)) w' := by
  have h0 : ts[0]? = some t := by rw [← Array.getElem?_toList, hts]; rfl
  simp only [Builtin.copy_, h0, List.getElem?_toArray, List.getElem?_cons_zero, List.getElem?_cons_succ, Sem.run_bind, run_underlying h1, Result.andThen_ok, run_sizeOf' h2, hl, hf, Sem.run_pure]
  cases B with
  | none =>
    simp only [Sem.run_pure, Result.ok.injEq, true_and] at hst
    subst hst
    simp
  | some a =>
    simp only at hst
    simp [hst]
theorem snd_cpy {s s' : St} (hr : Rep A ρ s.H s.nx w) {t ty e : TypeId} {ts : Array TypeId} {tr : List TypeId} (hts : ts.toList = t :: tr) {xe : TI} (h1 : P.underlying t = some (.slice e)) (h2 : tyOf P e = some xe) (hz : 0 < xe.size) {y x v : AV} {Y X : Value} (hy : VR w (UU A ρ s.H) ρ y Y) (hx : VR w (UU A ρ s.H) ρ x X) (h : cpyAV xe.size s y x = some (v, s')) :
    ∃ z w', (Builtin.copy_ ts ty #[Y, X]).run P w = .ok z w' ∧ Post A ρ s w v s' z w' := by
  unfold cpyAV at h
  split at h
  · rename_i src es' id off len ex hn
    split at h
    · rename_i hes
      subst hes
      split at h
      · rename_i es2 rows leak hid
        split at h
        · rename_i hc
          obtain ⟨c1, c2⟩ := hc
          split at h
          · rename_i H hup
            simp only [Option.some.injEq, Prod.mk.injEq] at h
            obtain ⟨rfl, rfl⟩ := h
            obtain ⟨news, k1, k2, k3, k4⟩ := src_spec (P := P) hr hx hn
            simp only [VR] at hy
            obtain ⟨B, c, rfl, g1, g2, g3⟩ := hy
            have hlen : (src.take len).length = Nat.min src.length len := by rw [List.length_take, Nat.min_comm]
            have hf := k4 w rfl (Nat.min src.length len) (Nat.min_le_left _ _)
            have hgo : goInt (Nat.min src.length len) = Value.int .i64 ((src.take len).length : Int) := by rw [hlen]; rfl
            rcases g3 with ⟨rfl, rfl⟩ | ⟨b, C, e', fr, g4, rfl, g5, g6⟩
            · have h0 : Nat.min src.length 0 = 0 := Nat.min_eq_right (Nat.zero_le _)
              have hst : (match B with | some a => storeCells a (news.take (Nat.min src.length 0 * xe.size)) | none => pure () : Sem Unit).run P w = .ok () w := by
                rw [h0]
                simp only [Nat.zero_mul, List.take_zero]
                cases B <;> rfl
              refine ⟨_, _, run_cpy (ty := ty) hts h1 h2 k3 hf hst, ?_⟩
              have hsame : ∀ k, lk H k = lk s.H k := by
                intro k
                rw [lk_upd hup k]
                by_cases hk : k = id
                · subst hk
                  rw [if_pos rfl, hid]
                  rw [copyRows_eq _ _ _ c2]
                  simp
                · rw [if_neg hk]
              have hsub : ∀ k o, lk H k = some o → lk s.H k = some o := fun k o hk => by rw [← hsame]; exact hk
              rw [hgo]
              refine ⟨rfl, rfl, ρ, Rep_sub hr hsub, by simp [VR, intV], Ext2.refl _ _, Fr_less fun b o hw => Wr_sub hsub hw⟩
            · obtain ⟨q1, q2, C', e2, fr2, q3, q4, q5⟩ := hr.ob id _ b xe.size hid g4
              subst q1
              rw [g5] at q3
              simp only [Option.some.injEq, Obj.cells.injEq] at q3
              obtain ⟨rfl, rfl, rfl⟩ := q3
              let cs := news.take (Nat.min src.length len * xe.size)
              have hm : Nat.min src.length len ≤ src.length := Nat.min_le_left _ _
              have hcs : cs.length = Nat.min src.length len * xe.size := by
                simp only [cs, List.length_take, k1]
                exact Nat.min_eq_left (Nat.mul_le_mul_right _ hm)
              have hrl := ARs_len q5
              have hcl : C.toList.length = C.size := by simp
              have hfit : off * xe.size + cs.length ≤ C.size := by
                rw [hcs, ← Nat.add_mul]
                have : (off + Nat.min src.length len) * xe.size ≤ rows.length * xe.size := Nat.mul_le_mul_right _ (by rw [hlen] at c2; exact c2)
                omega
              have hA2 : ARs w (UU A ρ s.H) xe.size (src.take len) cs := by
                have := ARs_take (k := Nat.min src.length len * xe.size) (ARs_rows k2 len) (by rw [hlen]; exact Nat.le_refl _)
                exact this
              have hone := ARs_one hA2 (by rw [hcs, hlen])
              have hst := run_storeCells_cells (P := P) b (off * xe.size) cs 0 w (fun j hj => by
                  rw [cell_of_block g5]; simp; omega) (fun j hj => frozen_of_block g5 q4 (by omega)) (fun v hv => oneCell_of_oneB (hone v hv))
              simp only [Nat.add_zero] at hst
              refine ⟨_, _, run_cpy (B := some ⟨b, off * xe.size, none⟩) (ty := ty) hts h1 h2 k3 hf hst, rfl, rfl, ρ, ?_⟩
              obtain ⟨u1, u2, u3, u4, u5, u6⟩ := setCells_heap b e' fr cs (off * xe.size) w C g5
              have hwrite : ∀ o, ¬ wrOb xe.size o (.arr xe.size rows leak) → (putV C (off * xe.size) cs)[o]? = C[o]? := by
                intro o ho
                rw [putV_get, if_neg]
                intro hh
                apply ho
                simp only [wrOb]
                have : leak * xe.size ≤ off * xe.size := Nat.mul_le_mul_right _ c1
                omega
              obtain ⟨hfr, hrep⟩ := blk_update (H' := H) (ob' := .arr xe.size (copyRows rows off (src.take len)) leak) hr hid g4 g5 u1 u2 u3 u4 u5 u6 (putV_size _ _ _) hwrite (fun k => lk_upd hup k) (fun _ hh => hh)
              rw [hgo]
              refine ⟨hrep ⟨rfl, hz, _, e', fr, u1, by rw [putV_size]; exact q4, ?_⟩, by simp [VR, intV], Ext2.refl _ _, hfr⟩
              rw [putV_list C _ cs hfit, copyRows_eq _ _ _ c2]
              have hq := ARs_mono hfr.stay q5
              have h3 := ARs_mono hfr.stay hA2
              have hoff : off ≤ rows.length := by omega
              have ha : ARs (w.setCells b (off * xe.size) cs) (UU A ρ H) xe.size (rows.take off ++ src.take len) (C.toList.take (off * xe.size) ++ cs) := by
                refine ARs_append (ARs_take (ARs_rows hq off) ?_) ?_ h3
                · rw [List.length_take, Nat.min_eq_left hoff]; exact Nat.le_refl _
                · rw [List.length_take, List.length_take, Nat.min_eq_left hoff, Nat.min_eq_left (by omega)]
              refine ARs_append ha ?_ ?_
              · rw [List.length_append, List.length_append, hcs, hlen, List.length_take, List.length_take, Nat.min_eq_left (by omega : off * xe.size ≤ C.toList.length), Nat.min_eq_left hoff, Nat.add_mul]
              · have := ARs_drop hq (off + (src.take len).length)
                rwa [Nat.add_mul, hlen, ← hcs, ← hlen] at this
          · cases h
        · cases h
      · cases h
    · cases h
  · rename_i src hn
    simp only [Option.some.injEq, Prod.mk.injEq] at h
    obtain ⟨rfl, rfl⟩ := h
    obtain ⟨news, k1, k2, k3, k4⟩ := src_spec (P := P) hr hx hn
    simp only [VR] at hy
    subst hy
    have hf := k4 w rfl (Nat.min src.length 0) (Nat.min_le_left _ _)
    refine ⟨_, _, run_cpy (B := none) (ty := ty) (w' := w) hts h1 h2 k3 hf rfl, ?_⟩
    refine Post.same hr ?_
    rw [show Nat.min src.length 0 = 0 from Nat.min_eq_right (Nat.zero_le _)]
    simp [VR, intV, goInt]
  · cases h
theorem run_clr {t ty e : TypeId} {ts : Array TypeId} {tr : List TypeId} (hts : ts.toList = t :: tr) (h1 : P.underlying t = some (.slice e)) {i : TypeInfo} (hi : P.info? e = some i) {zv : Value} (hz : i.zero = some zv) {B : Option Addr} {len c : Nat} {w' : World}
    (hst : len = 0 ∧ w' = w ∨ ∃ a, B = some a ∧ 0 < len ∧ (storeCells a (zeros zv.cells (len * zv.cells.size)).toList : Sem Unit).run P w = .ok () w') :
    (Builtin.clear_ ts ty #[.slice B len c]).run P w = .ok (.tuple #[]) w' := by
  have h0 : ts[0]? = some t := by rw [← Array.getElem?_toList, hts]; rfl
  have hzr : (zeroValue e).run P w = .ok zv w := by simp [zeroValue, typeInfo, hi, hz, Sem.run_bind]
  rcases hst with ⟨rfl, rfl⟩ | ⟨a, rfl, hl, hst⟩
  · cases B <;> simp [Builtin.clear_, h0, run_underlying h1]
  · obtain ⟨m, rfl⟩ : ∃ k, len = k + 1 := ⟨len - 1, by omega⟩
    have hzc : Builtin.zeroCells zv.cells (m + 1) = zeros zv.cells ((m + 1) * zv.cells.size) := rfl
    simp [Builtin.clear_, h0, run_underlying h1, hzr, hzc, hst]
theorem AXs_put {es o n : Nat} {rows rs : List (List AV)} {C : Array Value} {cs : List Value} {w' : World} {U' : Nat → Nat → Prop} (hst : Stay w U w' U') (h : AXs w U ρ es rows C.toList) (h2 : ARs w' U' es rs cs) (hn : rs.length = n) (hcs : cs.length = n * es) (hle : o + n ≤ rows.length) (hC : rows.length * es ≤ C.size) :
    AXs w' U' ρ es (copyRows rows o rs) (putV C (o * es) cs).toList := by
  subst hn
  have hfit : o * es + cs.length ≤ C.size := by
    rw [hcs, ← Nat.add_mul]
    have := Nat.mul_le_mul_right es hle
    omega
  refine AXs_mk fun i r hi => ?_
  rw [copyRows_eq _ _ _ hle] at hi
  have hsz : (putV C (o * es) cs).toList.length = C.size := by simp [putV_size]
  have hget : ∀ j, (putV C (o * es) cs).toList[j]? = if o * es ≤ j ∧ j < o * es + cs.length then cs[j - o * es]? else C.toList[j]? := fun j => by
    rw [Array.getElem?_toList, putV_get]
    split
    · rename_i hh
      split
      · rfl
      · rename_i hh'; exact absurd hh (by omega)
    · rename_i hh
      split
      · rename_i hh'; exact absurd hh' (by omega)
      · simp
  by_cases hin : o ≤ i ∧ i < o + rs.length
  · have hr : rs[i - o]? = some r := by
      rw [List.append_assoc, List.getElem?_append_right (by rw [List.length_take]; omega), List.length_take, Nat.min_eq_left (by omega), List.getElem?_append_left (by omega)] at hi
      exact hi
    obtain ⟨g1, g2, g3, g4⟩ := ARs_get h2 hr
    have heq : ((putV C (o * es) cs).toList.drop (i * es)).take es = (cs.drop ((i - o) * es)).take es := by
      apply List.ext_getElem?
      intro j
      rw [List.getElem?_take, List.getElem?_take]
      split
      · rename_i hj
        rw [List.getElem?_drop, List.getElem?_drop, hget]
        have e1 : i * es = o * es + (i - o) * es := by rw [← Nat.add_mul]; congr 1; omega
        rw [Nat.succ_mul] at g2
        rw [if_pos (by omega)]
        congr 1; omega
      · rfl
    rw [heq]
    refine ⟨g1, ?_, VRs_mono (Stay.refl _ _) _ _ noRho ρ (fun id x hx => by cases hx) g3, g4⟩
    rw [hsz]
    have := Nat.mul_le_mul_right es (show i + 1 ≤ rows.length by omega)
    omega
  · have hr : rows[i]? = some r := by
      rcases Nat.lt_or_ge i o with hl | hl
      · rw [List.append_assoc, List.getElem?_append_left (by rw [List.length_take]; omega), List.getElem?_take, if_pos hl] at hi
        exact hi
      · rw [List.getElem?_append_right (by rw [List.length_append, List.length_take]; omega), List.length_append, List.length_take, Nat.min_eq_left (by omega), List.getElem?_drop] at hi
        rw [← hi]; congr 1; omega
    obtain ⟨g1, g2, g3, g4⟩ := AXs_get h hr
    have heq : ((putV C (o * es) cs).toList.drop (i * es)).take es = (C.toList.drop (i * es)).take es := by
      apply List.ext_getElem?
      intro j
      rw [List.getElem?_take, List.getElem?_take]
      split
      · rename_i hj
        rw [List.getElem?_drop, List.getElem?_drop, hget, if_neg]
        rintro ⟨q1, q2⟩
        rcases Nat.lt_or_ge i o with hl | hl
        · have := Nat.mul_le_mul_right es (show i + 1 ≤ o by omega)
          rw [Nat.succ_mul] at this; omega
        · have := Nat.mul_le_mul_right es (show o + rs.length ≤ i by omega)
          rw [Nat.add_mul, ← hcs] at this; omega
      · rfl
    rw [heq]
    exact ⟨g1, by rw [hsz]; simpa using g2, VRs_mono hst _ _ _ _ (Ext.refl _) g3, g4⟩
theorem snd_clr {s s' : St} (hr : Rep A ρ s.H s.nx w) {t ty e : TypeId} {ts : Array TypeId} {tr : List TypeId} (hts : ts.toList = t :: tr) {xe : TI} (h1 : P.underlying t = some (.slice e)) (h2 : tyOf P e = some xe) {z0 : List AV} (hz0 : zeroCells xe = some z0) (hz : 0 < xe.size ∧ z0.length = xe.size) {y v : AV} {Y : Value} (hy : VR w (UU A ρ s.H) ρ y Y) (h : clrAV xe.size (frzs [] z0) s y = some (v, s')) :
    ∃ z w', (Builtin.clear_ ts ty #[Y]).run P w = .ok z w' ∧ Post A ρ s w v s' z w' := by
  obtain ⟨_, i, hi1, hi2, hi3, hi4⟩ := tyOf_spec h2
  obtain ⟨zv, hz1, hz2, hz3⟩ := zeroCells_specF hz0
  have hzero : i.zero = some zv := by rw [hi4]; exact hz1
  have hvz : ∀ {w : World} {U : Nat → Nat → Prop}, VRs w U noRho (frzs [] z0) zv.cells.toList := hz3
  have hflen : (frzs [] z0).length = xe.size := by
    rw [← hz.2]
    have h3 := VRs_length (hvz (w := w) (U := A))
    have h4 : ∀ l : List AV, (frzs [] l).length = l.length := fun l => by induction l with | nil => rfl | cons _ _ ih => simp [frzs, ih]
    exact h4 z0
  have hzs : zv.cells.size = xe.size := by have := VRs_length (hvz (w := w) (U := A)); simp at this; omega
  unfold clrAV at h
  split at h
  · rename_i es' id off len ex
    split at h
    · rename_i hes
      subst hes
      simp only [VR] at hy
      obtain ⟨B, c, rfl, g1, g2, g3⟩ := hy
      have hne : (∀ k, lk s'.H k = lk s.H k) → s'.env = s.env → s'.loc = s.loc → s'.nx = s.nx → v = .tup [] → len = 0 → ∃ z w', (Builtin.clear_ ts ty #[.slice B len c]).run P w = .ok z w' ∧ Post A ρ s w v s' z w' := by
        intro hsame he hl hnx hv h0
        subst hv
        refine ⟨_, _, run_clr (ty := ty) hts h1 hi1 hzero (.inl ⟨h0, rfl⟩), he, hl, ρ, ?_, by simp [VR, VRs], ?_, Fr_less fun b o hw => Wr_sub (fun k o hk => by rw [← hsame]; exact hk) hw⟩
        · rw [hnx]; exact Rep_sub hr fun k o hk => by rw [← hsame]; exact hk
        · rw [hnx]; exact Ext2.refl _ _
      have hA : ∀ {w : World} {U : Nat → Nat → Prop}, ARs w U xe.size (List.replicate len (frzs [] z0)) (zeros zv.cells (len * xe.size)).toList := ARs_zeros (n := len) (c := len) hz.1 hflen hvz (VRs_one hz2 (hvz (w := w) (U := A))) (Nat.le_refl _)
      have hzl : (zeros zv.cells (len * xe.size)).toList.length = len * xe.size := by simp [zeros]
      have hone := ARs_one (hA (w := w) (U := A)) (by rw [hzl, List.length_replicate])
      split at h
      · rename_i es2 rows leak hid
        split at h
        · rename_i hc
          obtain ⟨c1, c2⟩ := hc
          split at h
          · rename_i H hup
            simp only [Option.some.injEq, Prod.mk.injEq] at h
            obtain ⟨rfl, rfl⟩ := h
            rcases Nat.eq_zero_or_pos len with h0 | h0
            · refine hne (fun k => ?_) rfl rfl rfl rfl h0
              show lk H k = _
              rw [lk_upd hup k]
              split
              · rename_i hk; subst hk; rw [hid, h0]
                rw [copyRows_eq _ _ _ (by simp; omega)]; simp
              · rfl
            · rcases g3 with ⟨rfl, rfl⟩ | ⟨b, C, e', fr, g4, rfl, g5, g6⟩
              · omega
              · obtain ⟨q1, q2, C', e2, fr2, q3, q4, q5⟩ := hr.ob id _ b xe.size hid g4
                subst q1
                rw [g5] at q3
                simp only [Option.some.injEq, Obj.cells.injEq] at q3
                obtain ⟨rfl, rfl, rfl⟩ := q3
                have hrl := ARs_len q5
                have hcl : C.toList.length = C.size := by simp
                have hfit : off * xe.size + (zeros zv.cells (len * xe.size)).toList.length ≤ C.size := by
                  rw [hzl, ← Nat.add_mul]
                  have : (off + len) * xe.size ≤ rows.length * xe.size := Nat.mul_le_mul_right _ c2
                  omega
                have hst := run_storeCells_cells (P := P) b (off * xe.size) (zeros zv.cells (len * xe.size)).toList 0 w (fun j hj => by
                    rw [cell_of_block g5]; simp; omega) (fun j hj => frozen_of_block g5 q4 (by omega)) (fun v hv => oneCell_of_oneB (hone v hv))
                simp only [Nat.add_zero] at hst
                refine ⟨_, _, run_clr (ty := ty) hts h1 hi1 hzero (.inr ⟨_, rfl, h0, by rw [hzs]; exact hst⟩), rfl, rfl, ρ, ?_⟩
                obtain ⟨u1, u2, u3, u4, u5, u6⟩ := setCells_heap b e' fr (zeros zv.cells (len * xe.size)).toList (off * xe.size) w C g5
                have hwrite : ∀ o, ¬ wrOb xe.size o (.arr xe.size rows leak) → (putV C (off * xe.size) (zeros zv.cells (len * xe.size)).toList)[o]? = C[o]? := by
                  intro o ho
                  rw [putV_get, if_neg]
                  intro hh
                  apply ho
                  simp only [wrOb]
                  have : leak * xe.size ≤ off * xe.size := Nat.mul_le_mul_right _ c1
                  omega
                obtain ⟨hfr, hrep⟩ := blk_update (H' := H) (ob' := .arr xe.size (copyRows rows off (List.replicate len (frzs [] z0))) leak) hr hid g4 g5 u1 u2 u3 u4 u5 u6 (putV_size _ _ _) hwrite (fun k => lk_upd hup k) (fun _ hh => hh)
                refine ⟨hrep ⟨rfl, hz.1, _, e', fr, u1, by rw [putV_size]; exact q4, ?_⟩, by simp [VR, VRs], Ext2.refl _ _, hfr⟩
                rw [putV_list C _ _ hfit, copyRows_eq _ _ _ (by rw [List.length_replicate]; exact c2)]
                have hq := ARs_mono hfr.stay q5
                have hoff : off ≤ rows.length := by omega
                have ha : ARs (w.setCells b (off * xe.size) (zeros zv.cells (len * xe.size)).toList) (UU A ρ H) xe.size (rows.take off ++ List.replicate len (frzs [] z0)) (C.toList.take (off * xe.size) ++ (zeros zv.cells (len * xe.size)).toList) := by
                  refine ARs_append (ARs_take (ARs_rows hq off) ?_) ?_ hA
                  · rw [List.length_take, Nat.min_eq_left hoff]; exact Nat.le_refl _
                  · rw [List.length_take, List.length_take, Nat.min_eq_left hoff, Nat.min_eq_left (by omega)]
                refine ARs_append ha ?_ ?_
                · rw [List.length_append, List.length_append, hzl, List.length_replicate, List.length_take, List.length_take, Nat.min_eq_left (by omega : off * xe.size ≤ C.toList.length), Nat.min_eq_left hoff, Nat.add_mul]
                · have := ARs_drop hq (off + len)
                  rw [hzl, List.length_replicate]
                  rwa [Nat.add_mul] at this
          · cases h
        · cases h
      · rename_i es2 rows hid
        split at h
        · rename_i c2
          split at h
          · rename_i H hup
            simp only [Option.some.injEq, Prod.mk.injEq] at h
            obtain ⟨rfl, rfl⟩ := h
            rcases Nat.eq_zero_or_pos len with h0 | h0
            · refine hne (fun k => ?_) rfl rfl rfl rfl h0
              show lk H k = _
              rw [lk_upd hup k]
              split
              · rename_i hk; subst hk; rw [hid, h0]
                rw [copyRows_eq _ _ _ (by simp; omega)]; simp
              · rfl
            · rcases g3 with ⟨rfl, rfl⟩ | ⟨b, C, e', fr, g4, rfl, g5, g6⟩
              · omega
              · obtain ⟨q1, q2, C', e2, fr2, q3, q4, q5⟩ := hr.ob id _ b xe.size hid g4
                subst q1
                rw [g5] at q3
                simp only [Option.some.injEq, Obj.cells.injEq] at q3
                obtain ⟨rfl, rfl, rfl⟩ := q3
                have hrl : rows.length * xe.size ≤ C.size := by
                  rcases Nat.eq_zero_or_pos rows.length with hh | hh
                  · rw [hh]; simp
                  · obtain ⟨_, k2, _⟩ := AXs_get q5 (List.getElem?_eq_getElem (show rows.length - 1 < rows.length by omega))
                    simp only [Array.length_toList] at k2
                    rwa [show rows.length - 1 + 1 = rows.length by omega] at k2
                have hfit : off * xe.size + (zeros zv.cells (len * xe.size)).toList.length ≤ C.size := by
                  rw [hzl, ← Nat.add_mul]
                  have : (off + len) * xe.size ≤ rows.length * xe.size := Nat.mul_le_mul_right _ c2
                  omega
                have hst := run_storeCells_cells (P := P) b (off * xe.size) (zeros zv.cells (len * xe.size)).toList 0 w (fun j hj => by
                    rw [cell_of_block g5]; simp; omega) (fun j hj => frozen_of_block g5 q4 (by omega)) (fun v hv => oneCell_of_oneB (hone v hv))
                simp only [Nat.add_zero] at hst
                refine ⟨_, _, run_clr (ty := ty) hts h1 hi1 hzero (.inr ⟨_, rfl, h0, by rw [hzs]; exact hst⟩), rfl, rfl, ρ, ?_⟩
                obtain ⟨u1, u2, u3, u4, u5, u6⟩ := setCells_heap b e' fr (zeros zv.cells (len * xe.size)).toList (off * xe.size) w C g5
                have hwrite : ∀ o, ¬ wrOb xe.size o (.arx xe.size rows) → (putV C (off * xe.size) (zeros zv.cells (len * xe.size)).toList)[o]? = C[o]? := by
                  intro o ho
                  exact absurd trivial ho
                obtain ⟨hfr, hrep⟩ := blk_update (H' := H) (ob' := .arx xe.size (copyRows rows off (List.replicate len (frzs [] z0)))) hr hid g4 g5 u1 u2 u3 u4 u5 u6 (putV_size _ _ _) hwrite (fun k => lk_upd hup k) (fun _ hh => trivial)
                refine ⟨hrep ⟨rfl, hz.1, _, e', fr, u1, by rw [putV_size]; exact q4, ?_⟩, by simp [VR, VRs], Ext2.refl _ _, hfr⟩
                exact AXs_put hfr.stay q5 hA (List.length_replicate ..) hzl c2 hrl
          · cases h
        · cases h
      · cases h
    · cases h
  · simp only [Option.some.injEq, Prod.mk.injEq] at h
    obtain ⟨rfl, rfl⟩ := h
    simp only [VR] at hy
    subst hy
    exact ⟨_, _, run_clr (ty := ty) (w := w) hts h1 hi1 hzero (.inl ⟨rfl, rfl⟩), Post.same hr (by simp [VR, VRs])⟩
  · cases h
end
end Go.Proofs.Ytefjblgmnoheiaa.R
