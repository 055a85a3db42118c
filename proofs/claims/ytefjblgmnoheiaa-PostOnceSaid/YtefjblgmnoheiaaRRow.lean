/- What is read of memory as data, as abstract values. -/
import Derived.Test.YtefjblgmnoheiaaRDrwG
import Derived.ProofKit
import Derived.SizedLaws
set_option linter.unusedVariables false
set_option linter.unusedSectionVars false
set_option linter.unusedSimpArgs false
noncomputable section
namespace Go.Proofs.Ytefjblgmnoheiaa.R
open Go Go.ChangeShapes Go.WideShapes
/-- Cells that hold a value of a type. -/
def Fit (P : Program) : Nat → TypeId → List AV → Prop
  | 0, _, _ => False
  | n + 1, t, as =>
    match P.underlying t with
    | some .bool => ∃ b, as = [.bool b]
    | some (.int k) => ∃ i, as = [.int k i] ∧ (Lit.int k i).wf = true
    | some .string => ∃ s, as = [.str s] ∧ s.size ≤ reachBytes
    | some (.slice e) => ∃ rows, as = [canI rows] ∧ rows.length ≤ reachBytes ∧ ∀ r ∈ rows, Fit P n e r
    | some (.struct fs) => as.length = P.cellsOf t ∧ ∀ f ∈ fs.toList, Fit P n f.type ((as.drop f.offset).take (P.cellsOf f.type))
    | _ => False
/-- Fields that lie one behind the other. -/
def tileB (P : Program) (tys : List TypeId) : Nat → List Field → Nat → Bool
  | o, [], n => Nat.beq o n
  | o, f :: r, n => Nat.beq f.offset o && (tys.contains f.type && tileB P tys (o + P.cellsOf f.type) r n)
def tyB (P : Program) (tys : List TypeId) (t : TypeId) : Bool :=
  match P.underlying t with
  | some .bool => true
  | some (.int _) => true
  | some .string => true
  | some (.slice e) => Nat.blt 0 (P.cellsOf e) && (Nat.blt 0 (P.bytesOf e) && tys.contains e)
  | some (.struct fs) => tileB P tys 0 fs.toList (P.cellsOf t)
  | _ => false
def tysB (P : Program) (tys : List TypeId) : Bool := tys.all (tyB P tys)
theorem choose_list {α : Type} {Q : Nat → α → Prop} : ∀ n : Nat, (∀ i, i < n → ∃ r, Q i r) → ∃ rows : List α, rows.length = n ∧ ∀ i r, rows[i]? = some r → Q i r
  | 0, _ => ⟨[], rfl, by simp⟩
  | n + 1, h => by
    obtain ⟨rows, h1, h2⟩ := choose_list n fun i hi => h i (by omega)
    obtain ⟨r, hr⟩ := h n (by omega)
    refine ⟨rows ++ [r], by simp [h1], fun i x hx => ?_⟩
    rw [List.getElem?_append] at hx
    split at hx
    · exact h2 i x hx
    · rename_i hge
      have hi : i - rows.length = 0 := by
        rcases Nat.eq_zero_or_pos (i - rows.length) with h0 | h0
        · exact h0
        · rw [List.getElem?_eq_none (by simp; omega)] at hx; cases hx
      rw [hi] at hx
      simp at hx
      subst hx
      have : i = n := by omega
      subst this
      exact hr
section
variable {H : Type} {enc : TypeId × Value → H} {P : Program} {w : World} {base : Nat} {spare : Nat → Bool} {held : Bool} {U : Nat → Nat → Prop} {tys : List TypeId}
theorem cellBs_append : ∀ {as bs : List AV}, cellBs as = true → cellBs bs = true → cellBs (as ++ bs) = true
  | [], bs, _, h => h
  | a :: as, bs, h, h' => by
    simp only [cellBs, List.cons_append, Bool.and_eq_true] at h ⊢
    exact ⟨h.1, cellBs_append h.2 h'⟩
theorem fields_fit {n : Nat} {cs : List Value} : ∀ {fs : List Field} {o m : Nat}, tileB P tys o fs m = true → (∀ f ∈ fs, tys.contains f.type = true → ∃ as, VRs w U noRho as ((cs.drop f.offset).take (P.cellsOf f.type)) ∧ cellBs as = true ∧ Fit P n f.type as) → cs.length = m → o ≤ m →
    ∃ as, VRs w U noRho as (cs.drop o) ∧ cellBs as = true ∧ (∀ f ∈ fs, o ≤ f.offset) ∧ ∀ f ∈ fs, Fit P n f.type ((as.drop (f.offset - o)).take (P.cellsOf f.type))
  | [], o, m, h, hf, hl, ho => by
    have : o = m := Nat.eq_of_beq_eq_true h
    subst this
    refine ⟨[], ?_, rfl, by simp, by simp⟩
    rw [List.drop_eq_nil_of_le (by omega)]
    simp [VRs]
  | f :: fs, o, m, h, hf, hl, ho => by
    simp only [tileB, Bool.and_eq_true] at h
    obtain ⟨h1, h2, h3⟩ := h
    have h1 := Nat.eq_of_beq_eq_true h1
    obtain ⟨as, g1, g2, g3⟩ := hf f (by simp) h2
    have hle : ∀ (fs : List Field) (o : Nat), tileB P tys o fs m = true → o ≤ m := by
      intro fs
      induction fs with
      | nil => intro o h; exact Nat.le_of_eq (Nat.eq_of_beq_eq_true h)
      | cons f r ih =>
        intro o h
        simp only [tileB, Bool.and_eq_true] at h
        have := ih _ h.2.2
        omega
    have hom := hle _ _ h3
    obtain ⟨bs, k1, k2, k3, k4⟩ := fields_fit h3 (fun f' hf' => hf f' (by simp [hf'])) hl hom
    have hal : as.length = P.cellsOf f.type := by
      rw [VRs_length g1, List.length_take, List.length_drop]; omega
    refine ⟨as ++ bs, ?_, cellBs_append g2 k2, fun f' hf' => ?_, fun f' hf' => ?_⟩
    · have : cs.drop o = (cs.drop f.offset).take (P.cellsOf f.type) ++ cs.drop (o + P.cellsOf f.type) := by
        rw [h1, ← List.drop_drop, List.take_append_drop]
      rw [this]
      exact VRs_append g1 k1
    · rcases List.mem_cons.1 hf' with rfl | hf'
      · omega
      · have := k3 f' hf'; omega
    · rcases List.mem_cons.1 hf' with rfl | hf'
      · rw [h1, Nat.sub_self, List.drop_zero, List.take_append_of_le_length (by omega), List.take_of_length_le (by omega)]
        exact g3
      · have h5 := k3 f' hf'
        have h6 := k4 f' hf'
        rw [show f'.offset - o = as.length + (f'.offset - (o + P.cellsOf f.type)) by omega, ← List.drop_drop, List.drop_left]
        exact h6
theorem fit_one {v : Value} {a : AV} (h : VR w U noRho a v) : VRs w U noRho [a] [v] := by simp only [VRs]; exact ⟨v, [], rfl, h, rfl⟩
theorem weights_all {e : TypeId} {d : DataW H} : ∀ {ds : List (DataW H)}, d ∈ ds → ∀ n ∈ d.weights P e, n ∈ DataW.weightsAll P e ds
  | [], h, _, _ => by simp at h
  | d0 :: ds, h, n, hn => by
    simp only [DataW.weightsAll, List.mem_append]
    rcases List.mem_cons.1 h with rfl | h
    · exact Or.inl hn
    · exact Or.inr (weights_all h n hn)
theorem trod_fit (hU : ∀ b o, ¬ U b o) (hT : tysB P tys = true) : ∀ (n : Nat) (t : TypeId) (cs : List Value) (x : DataW H × List MemPlace), tys.contains t = true → DataW.trod enc P w base spare held n t cs = some x → (∀ m ∈ x.1.weights P t, m ≤ reachBytes) → ∃ as, VRs w U noRho as cs ∧ cellBs as = true ∧ Fit P n t as
  | 0, t, cs, x, ht, h, hw => by simp [DataW.trod] at h
  | n + 1, t, cs, x, ht, h, hw => by
    have htB : tyB P tys t = true := by
      simp only [tysB, List.all_eq_true] at hT
      exact hT t (by simpa using ht)
    unfold tyB at htB
    split at htB
    · rename_i hu
      obtain ⟨b, rfl, _⟩ := DataW.trod_bool hu h
      refine ⟨[.bool b], fit_one (by simp [VR]), rfl, ?_⟩
      simp only [Fit, hu]
      exact ⟨b, rfl⟩
    · rename_i k hu
      obtain ⟨i, rfl, _, hw⟩ := DataW.trod_int hu h
      refine ⟨[.int k i], fit_one (by simp [VR]), rfl, ?_⟩
      simp only [Fit, hu]
      exact ⟨i, rfl, hw⟩
    · rename_i hu
      obtain ⟨s, rfl, rfl, hs⟩ := DataW.trod_string hu h
      refine ⟨[.str s], fit_one (by simp [VR]), rfl, ?_⟩
      simp only [Fit, hu]
      exact ⟨s, rfl, by simpa [DataW.weights] using hw⟩
    · rename_i e hu
      simp only [Bool.and_eq_true] at htB
      obtain ⟨hz, hbz, he⟩ := htB
      have hbz : 0 < P.bytesOf e := by rwa [Nat.blt_eq] at hbz
      have hz : 0 < P.cellsOf e := by rwa [Nat.blt_eq] at hz
      rcases DataW.trod_slice hu h with ⟨rfl, _⟩ | ⟨a, len, cap, elems, rest, m, hm, rfl, rfl, _, hlc, hcap, hel, hget, _⟩
      · refine ⟨[canI []], fit_one (VR_nilI (ρ := noRho) (by simp [VR])), rfl, ?_⟩
        simp only [Fit, hu]
        exact ⟨[], rfl, Nat.zero_le _, by simp⟩
      · have hm : n = m := by omega
        subst hm
        simp only [DataW.weights, hu, List.mem_cons, List.mem_append] at hw
        have hlen : len ≤ reachBytes := by
          have h1 := hw _ (Or.inl rfl)
          rw [List.length_map, List.length_map] at h1
          have h2 := Nat.le_mul_of_pos_right (elems.length + rest.length) hbz
          omega
        have hrow : ∀ i, i < len → ∃ r : List AV, (∃ cs', w.cells? base (a.add (i * P.cellsOf e)) (P.cellsOf e) = some cs' ∧ VRs w U noRho r cs') ∧ cellBs r = true ∧ Fit P n e r := by
          intro i hi
          have hg := hget i hi
          rw [List.getElem?_eq_getElem (by omega)] at hg
          cases hc : w.cells? base (a.add (i * P.cellsOf e)) (P.cellsOf e) with
          | none => rw [hc] at hg; cases hg
          | some cs' =>
            rw [hc] at hg
            obtain ⟨r, g1, g2, g3⟩ := trod_fit hU hT n e cs' _ he hg fun m hm => hw m (Or.inr (Or.inl (weights_all (List.mem_map_of_mem (List.getElem_mem _)) m hm)))
            exact ⟨r, ⟨cs', rfl, g1⟩, g2, g3⟩
        obtain ⟨rows, h1, h2⟩ := choose_list len hrow
        refine ⟨[canI rows], fit_one (VR_canI (es := P.cellsOf e) (ex := decide (cap = len)) ?_), rfl, ?_⟩
        · simp only [VR]
          refine ⟨some a, cap, by rw [h1], by omega, fun hh => by rw [h1]; simpa using hh, ?_⟩
          rcases Nat.eq_zero_or_pos len with h0 | h0
          · left; exact List.eq_nil_of_length_eq_zero (by omega)
          · right
            obtain ⟨b, o, spot⟩ := a
            have hspot : spot = none := by
              obtain ⟨⟨cs', hc, _⟩, _, _⟩ := h2 0 rows[0] (List.getElem?_eq_getElem (by omega))
              obtain ⟨_, hlen, hcell⟩ := World.cells?_some hc
              have g0 := hcell 0 hz
              obtain ⟨c0, hc0⟩ : ∃ c0, cs'[0]? = some c0 := by
                cases cs' with
                | nil => simp at hlen; omega
                | cons c _ => exact ⟨c, rfl⟩
              rw [hc0] at g0
              simpa [Addr.add] using World.cell?_spot g0
            subst hspot
            refine ⟨b, o, rfl, RWs_mk fun i r hi => ?_⟩
            obtain ⟨⟨cs', hc, hv⟩, hb, _⟩ := h2 i r hi
            obtain ⟨_, hlen, hcell⟩ := World.cells?_some hc
            have hrl := VRs_length hv
            refine ⟨by omega, CLs_mk fun j c hj => ?_⟩
            obtain ⟨v, g1, g2⟩ := VRs_get hv hj
            have hjl := lt_of_getElem? g1
            have g3 := hcell j (by omega)
            rw [add_off, add_off, g1] at g3
            exact ⟨v, g3, hU _ _, VRs_one hb hv v (List.mem_of_getElem? g1), g2⟩
        · simp only [Fit, hu]
          refine ⟨rows, rfl, by omega, fun r hr => ?_⟩
          obtain ⟨i, hi⟩ := List.mem_iff_getElem?.1 hr
          exact (h2 i r hi).2.2
    · rename_i fs hu
      obtain ⟨xs, m, hm, rfl, hl, hxs, hf⟩ := DataW.trod_struct hu h
      have hm : n = m := by omega
      subst hm
      obtain ⟨as, g1, g2, _, g4⟩ := fields_fit (n := n) htB (fun f hfm hft => by
        obtain ⟨i, hi⟩ := List.mem_iff_getElem?.1 hfm
        have hi' : fs[i]? = some f := by simpa using hi
        have := hf i f hi'
        have hlt : i < xs.length := by
          rw [hxs]
          exact (Array.getElem?_eq_some_iff.1 hi').1
        rw [List.getElem?_eq_getElem hlt] at this
        refine trod_fit hU hT n f.type _ _ hft this fun m hm => hw m ?_
        simp only [DataW.weights, hu]
        exact DataW.weights_mem_each (j := i) (by simp [hi]) (by rw [List.getElem?_map, List.getElem?_eq_getElem hlt]; rfl) m hm) hl (Nat.zero_le _)
      rw [List.drop_zero] at g1
      refine ⟨as, g1, g2, ?_⟩
      simp only [Fit, hu]
      refine ⟨by rw [VRs_length g1, hl], fun f hfm => ?_⟩
      simpa using g4 f hfm
    · cases htB
end
end Go.Proofs.Ytefjblgmnoheiaa.R

/- From an answer of the evaluator to what a row asks. -/
set_option linter.unusedVariables false
set_option linter.unusedSectionVars false
set_option linter.unusedSimpArgs false
noncomputable section
namespace Go.Proofs.Ytefjblgmnoheiaa.R
open Go Go.ChangeShapes Go.WideShapes Go.ChangeAt Go.RowKit
def argOf (P : Program) (t : TypeId) (as : List AV) : AV :=
  match P.underlying t with
  | some (.struct _) => .agg as
  | _ => as.headD .bad
/-- Arguments, each a value of its type. -/
def Args (P : Program) : List TypeId → List AV → Prop
  | [], [] => True
  | t :: ts, a :: as => (∃ n cs, Fit P n t cs ∧ a = argOf P t cs) ∧ Args P ts as
  | _, _ => False
section
variable {H : Type} {enc : TypeId × Value → H} {P : Program} {w : World} {tys : List TypeId} {U : Nat → Nat → Prop}
theorem arg_open (hU : ∀ b o, ¬ U b o) (hT : tysB P tys = true) {base : Nat} {t : TypeId} (ht : tys.contains t = true) {v : Value} {d : DataW H} {ps : List MemPlace} (hv : Value.okWide P w .any base t v) (h : DataW.Trod enc P w 0 (fun _ => true) true t v d ps) (hw : ∀ m ∈ d.weights P t, m ≤ reachBytes) :
    ∃ a, VR w U noRho a v ∧ ∃ n cs, Fit P n t cs ∧ a = argOf P t cs := by
  obtain ⟨n, h⟩ := h
  obtain ⟨as, h1, h2, h3⟩ := trod_fit hU hT n t _ _ ht h hw
  refine ⟨argOf P t as, ?_, n, as, h3, rfl⟩
  have htB : tyB P tys t = true := by
    simp only [tysB, List.all_eq_true] at hT
    exact hT t (by simpa using ht)
  have single : (∀ fs, P.underlying t ≠ some (.struct fs)) → oneB v = true → VR w U noRho (argOf P t as) v := by
    intro hns hone
    rw [cells_one hone] at h1
    cases as with
    | nil => simp [VRs] at h1
    | cons a as =>
      simp only [VRs] at h1
      obtain ⟨x, r, e1, e2, e3⟩ := h1
      have e1 : [v] = x :: r := e1
      simp only [List.cons.injEq] at e1
      obtain ⟨rfl, rfl⟩ := e1
      have : argOf P t (a :: as) = a := by
        unfold argOf
        split
        · rename_i fs hu; exact absurd hu (hns fs)
        · rfl
      rw [this]
      exact e2
  cases n with
  | zero => simp [Fit] at h3
  | succ n =>
    unfold tyB at htB
    split at htB
    · rename_i hu
      obtain ⟨b, rfl⟩ := okWide_bool hu hv
      exact single (fun fs e => by rw [hu] at e; cases e) rfl
    · rename_i k hu
      obtain ⟨b, rfl⟩ := okWide_int hu hv
      exact single (fun fs e => by rw [hu] at e; cases e) rfl
    · rename_i hu
      obtain ⟨b, rfl⟩ := okWide_string hu hv
      exact single (fun fs e => by rw [hu] at e; cases e) rfl
    · rename_i e hu
      obtain ⟨a, l, c, rfl⟩ := okWide_slice hu hv
      exact single (fun fs e => by rw [hu] at e; cases e) rfl
    · rename_i fs hu
      simp only [Value.okWide, hu] at hv
      obtain ⟨cs, rfl, _⟩ := hv
      simp only [argOf, hu, VR]
      exact ⟨cs, rfl, h1⟩
    · cases htB
theorem args_open (hU : ∀ b o, ¬ U b o) (hT : tysB P tys = true) {base : Nat} : ∀ {ts : List TypeId} {vs : List Value} {ds : List (DataW H)} {ps : List MemPlace}, (∀ t ∈ ts, tys.contains t = true) → (∀ (j : Nat) t v, ts[j]? = some t → vs[j]? = some v → Value.okWide P w .any base t v) →
    DataW.TrodAll enc P w 0 (fun _ => true) true ts vs ds ps → (∀ m ∈ DataW.weightsEach P ts ds, m ≤ reachBytes) → ∃ avs, VRs w U noRho avs vs ∧ Args P ts avs
  | [], vs, ds, ps, ht, hv, h, hw => by
    obtain ⟨rfl, rfl, rfl⟩ := trodAll_nil h
    exact ⟨[], by simp [VRs], by simp [Args]⟩
  | t :: ts, vs, ds, ps, ht, hv, h, hw => by
    obtain ⟨v, vs', d, ds', p, q, rfl, rfl, rfl, h1, h2⟩ := trodAll_cons h
    simp only [DataW.weightsEach, List.mem_append] at hw
    obtain ⟨a, g1, g2⟩ := arg_open hU hT (ht t (by simp)) (hv 0 t v rfl rfl) h1 fun m hm => hw m (Or.inl hm)
    obtain ⟨avs, k1, k2⟩ := args_open hU hT (fun t' ht' => ht t' (by simp [ht'])) (fun j t' v' h h' => hv (j + 1) t' v' (by simpa using h) (by simpa using h')) h2 fun m hm => hw m (Or.inr hm)
    exact ⟨a :: avs, by simp only [VRs]; exact ⟨v, vs', rfl, g1, k1⟩, by simp only [Args]; exact ⟨g2, k2⟩⟩
theorem trodAll_stays (hl : laidOutB P = true) {W W' : World} {sp : Nat → Bool} : ∀ {ts : List TypeId} {vs : List Value} {ds : List (DataW H)} {ps : List MemPlace}, (∀ t ∈ ts, P.readableRec t = true ∧ t < P.types.size) → DataW.TrodAll enc P W 0 (fun _ => true) true ts vs ds ps → (∀ p ∈ ps, W.sameAt W' p) → (∀ p ∈ ps, sp p.block = true) →
    DataW.TrodAll enc P W' 0 sp true ts vs ds ps
  | [], vs, ds, ps, ht, h, hs, hp => by
    obtain ⟨rfl, rfl, rfl⟩ := trodAll_nil h
    exact rfl
  | t :: ts, vs, ds, ps, ht, h, hs, hp => by
    obtain ⟨v, vs', d, ds', p, q, rfl, rfl, rfl, h1, h2⟩ := trodAll_cons h
    have h3 := ht t (by simp)
    exact ⟨p, q, WideElems.Trod_stays hl h3.1 h3.2 h1 (fun x hx => hs x (List.mem_append_left _ hx)) (fun x hx => hp x (List.mem_append_left _ hx)),
      trodAll_stays hl (fun t' ht' => ht t' (by simp [ht'])) h2 (fun x hx => hs x (List.mem_append_right _ hx)) (fun x hx => hp x (List.mem_append_right _ hx)), rfl⟩
theorem Below_of_fr {W W' : World} {ρ' : Rho} {H' : Heap} (h : Fr noRho [] W ρ' H' W') : Below W.heap.size W W' := by
  have hno : ∀ b o, ¬ Wr noRho [] b o := fun b o hw => by
    obtain ⟨id, es, ob, h1, _⟩ := hw
    simp at h1
  refine ⟨h.os, h.tape, h.output, h.size, fun b hb => ?_⟩
  cases hob : W.heap[b]? with
  | none => rw [Array.getElem?_eq_getElem hb] at hob; cases hob
  | some ob =>
    cases ob with
    | cells C e fr => rw [← hob]; exact blk_same h hob (hno b)
    | map es c => exact h.other b _ hob (fun C e fr hh => by cases hh)
    | _ => exact h.other b _ hob (fun C e fr hh => by cases hh)
/-- 'post', where the arguments read as they read. -/
theorem post_of_below {f : Func} {s : ChangeSpec} {apart fresh handsOn again : Bool} {W W' : World} {args : Array Value} {v : Value} {ds : List (DataW H)} {before : List MemPlace}
    (hvars : s.vars = []) (hl : laidOutB P = true) (hrd : ∀ t ∈ f.params.toList, P.readableRec t = true ∧ t < P.types.size)
    (hW : DataW.Whole enc P f.params.toList s.vars apart W args.toList ds [] before)
    (hsp : (s.fn H (ds ++ [])).args = ds) (hsv : (s.fn H (ds ++ [])).vars = [])
    (hres : ∀ (b : Nat) (sp : Nat → Bool) (hd : Bool), DataW.TrodAll enc P W' b sp hd f.resultTypes.toList (v.resultList f.resultTypes.size) (s.fn H (ds ++ [])).results [])
    (hb : Below W.heap.size W W')
    (hok : ∀ (j : Nat) (t : TypeId) (r : Value), f.resultTypes[j]? = some t → (v.resultList f.resultTypes.size)[j]? = some r → Value.okWide P W' .any 0 t r) :
    s.post enc P f apart fresh handsOn again W args v W' := by
  obtain ⟨p, q, hA, hV, hps, hz, hn⟩ := hW
  rw [hvars] at hV
  obtain ⟨_, rfl⟩ := trodVars_none hV
  simp only [List.append_nil] at hps
  subst hps
  have hlt : ∀ x ∈ before, x.block < W.heap.size := fun x hx => DataW.Whole.lt (⟨before, [], hA, by rw [hvars]; exact hV, by simp, hz, hn⟩ : DataW.Whole enc P f.params.toList s.vars apart W args.toList ds [] before) x hx
  have hsame : ∀ x ∈ before, W.sameAt W' x := fun x hx => hb.same (hlt x hx)
  have hold : ∀ x ∈ before, (fun b => decide (b < W.heap.size)) x.block = true := fun x hx => by simpa using hlt x hx
  have hargs : ∀ sp : Nat → Bool, (∀ x ∈ before, sp x.block = true) → DataW.TrodAll enc P W' 0 sp true f.params.toList args.toList (s.fn H (ds ++ [])).args before := fun sp hs => by
    rw [hsp]
    exact trodAll_stays hl hrd hA hsame hs
  have hvs : ∀ sp : Nat → Bool, DataW.TrodVars enc P W' sp s.vars (s.fn H (ds ++ [])).vars [] := fun sp => by
    rw [hvars, hsv]
    rfl
  refine ⟨ds, [], before, [], before, [], ⟨before, [], hA, by rw [hvars]; exact hV, by simp, hz, hn⟩, hres _ _ _, hargs _ hold, hvs _, hb.frame _, fun _ => ?_⟩
  refine ⟨hok, _, _, ([] ++ before) ++ [], ⟨[] ++ before, [], trodAll_append (hargs _ (fun _ _ => rfl)) (hres _ _ _), hvs _, rfl, ?_, ?_⟩, ?_⟩
  · intro b off hp
    have hp' : MemPlace.cell b off ∈ before := by simpa using hp
    rw [hb.frozen (p := ⟨b, off, none⟩) (hlt _ hp')]
    exact hz b off hp'
  · intro ha
    simpa using hn ha
  · intro x hx _
    simpa using hx
end
end Go.Proofs.Ytefjblgmnoheiaa.R

